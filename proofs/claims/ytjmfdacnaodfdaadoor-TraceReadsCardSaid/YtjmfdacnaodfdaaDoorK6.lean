/- Operations off bytes: the program's and the document's. Operations off bytes: the document's. May an event be? The program's and the document's. package trace: what is thrown, and caught. package trace: put. package trace: Bytes. package hearsayref40: Bytes. -/
import Derived.Test.YtjmfdacnaodfdaaDoorK5
import Derived.WalkLawsBesides
import Derived.Defers
import Derived.Recover
namespace Go.Proofs.YtjmfdacnaodfdaaDoor
set_option linter.unusedVariables false
set_option linter.unusedSimpArgs false
open Go.RowKit

theorem Rd.num_le (r : Rd) (m : Int) (h : 0 ≤ m) : (r.num m).1 ≤ m := by
  unfold Rd.num
  split
  · exact h
  · split
    · exact h
    · rename_i h2
      obtain ⟨N, K, ht, h1, _⟩ := numE_ok (l := r.l) (most := m) (by simpa using h2)
      rw [ht]
      exact h1
def readLoop : Nat → Rd → List OpR → List OpR × Rd
  | 0, r, acc => (acc, r)
  | n + 1, r, acc => if r.e ≠ 0 then (acc, r) else readLoop n r.op.2 (acc ++ [r.op.1])
/-- What bytes are as operations, or what is wrong first. -/
def readM (l : List UInt8) : List OpR × Int :=
  let a := (⟨l, 0⟩ : Rd).num 400
  let b := readLoop a.1.toNat a.2 []
  if b.2.done = 0 then (b.1, 0) else ([], b.2.done)
theorem readLoop_stop (n : Nat) (r : Rd) (h : r.e ≠ 0) (acc : List OpR) : readLoop n r acc = (acc, r) := by
  cases n with
  | zero => rfl
  | succ n => unfold readLoop; rw [if_pos h]
theorem Rd.done_stop (r : Rd) (h : r.e ≠ 0) : r.done = r.e := by unfold Rd.done; rw [if_neg h]
theorem Rd.op_len (r : Rd) : r.op.2.l.length ≤ r.l.length := by
  have h1 := r.num_len 1073741824
  have gl : ∀ (s : OpR × Rd) i m, (gnum s i m).2.l.length ≤ s.2.l.length := fun s i m => s.2.num_len m
  have tl : ∀ (s : OpR × Rd) i, (gtxt s i).2.l.length ≤ s.2.l.length := fun s i => s.2.txt_len 255
  have g3 : ∀ K (s : OpR × Rd) i, (gnums K s i).2.l.length ≤ s.2.l.length := by
    intro K s i
    induction i with
    | zero => exact Nat.le_refl _
    | succ i ih =>
      unfold gnums
      split
      · exact Nat.le_trans (gl _ _ _) ih
      · exact ih
  have g2 : ∀ K (s : OpR × Rd) i, (gtxts K s i).2.l.length ≤ s.2.l.length := by
    intro K s i
    induction i with
    | zero => exact Nat.le_refl _
    | succ i ih =>
      unfold gtxts
      split
      · exact Nat.le_trans (tl _ _) ih
      · exact ih
  have g0 : ∀ K (s : OpR × Rd), (gto K s).2.l.length ≤ s.2.l.length := by
    intro K s
    unfold gto
    split
    · exact gl _ _ _
    · exact Nat.le_refl _
  unfold Rd.op
  split
  · exact h1
  · split
    · exact h1
    · unfold takeB
      exact Nat.le_trans (g2 _ _ _) (Nat.le_trans (g3 _ _ _) (Nat.le_trans (g0 _ _) (Nat.le_trans (gl _ _ _) h1)))
theorem KeptBut.grown {b : Nat} {w0 w w' : World} {row : Option Nat} (h : KeptBut b w0 w) (hg : w.grownBy w' row) (hrow : ∀ k, row = some k → w0.heap.size ≤ k) : KeptBut b w0 w' :=
  ⟨hg.os.trans h.os, hg.tape.trans h.tape, hg.output.trans h.output, Nat.le_trans h.size hg.size, fun k hk hne => by
    rw [hg.block k (Nat.lt_of_lt_of_le hk h.size) (fun e => by have := hrow k e.symm; omega)]
    exact h.block k hk hne⟩
theorem KeptBut.alloc {b : Nat} {w0 w : World} (h : KeptBut b w0 w) (o : Obj) : KeptBut b w0 (w.alloc o) := h.trans (KeptBut.of_below ((Below.refl _ _).alloc (Nat.le_refl _) o))
theorem RdAt.of_block {T : TypeId} {w w' : World} {b : Nat} {r : Rd} (h : RdAt T w b r) (hb : w'.heap[b]? = w.heap[b]?) : RdAt T w' b r := by
  unfold RdAt RAt at h ⊢
  rw [hb]
  exact h

def ReadPost (R : List OpR × Int) (e : Ending) (w' : World) : Prop :=
  (R.2 = 0 → ∃ A c, e = .returned (.tuple #[.slice A R.1.length c, .int .i64 0]) ∧ OpsAt w' A R.1) ∧
  (R.2 ≠ 0 → e = .returned (.tuple #[.slice none 0 0, .int .i64 R.2]))

/-- Where a reading stands. -/
structure ReadS (T : TypeId) (b L : Nat) (w1 : World) (r : Rd) (w : World) : Prop where
  rd : RdAt T w b r
  kept : KeptBut b w1 w
  flds : Flds w
  len : r.l.length ≤ L

set_option maxHeartbeats 4000000 in
set_option maxRecDepth 100000 in
theorem oread_any (s : List UInt8) (hs : s.length ≤ 1000000000) (w : World) (hd : Flds w) (h0 : 0 < w.heap.size) :
    Calls Tryd.prog 60 #[.string (bs s)] w fun e w' => ReadPost (readM s) e w' ∧ Below w.heap.size w w' := by
  obtain ⟨w1, hw1⟩ : ∃ W, w.alloc (.cells #[.string (bs s), .int .i64 0] 88) = W := ⟨_, rfl⟩
  have hb1 : Below w.heap.size w w1 := by rw [← hw1]; exact (Below.refl _ _).alloc (Nat.le_refl _) _
  have hz1 : w1.heap.size = w.heap.size + 1 := by rw [← hw1]; simp
  have hr1 : RdAt 88 w1 w.heap.size ⟨s, 0⟩ := by rw [← hw1]; exact World.alloc_heap_new _ _
  have HNEW : Hid (Calls Tryd.prog 30 #[.string (bs s)] w fun v w' => v = .returned (.pointer (some ⟨w.heap.size, 0, none⟩)) ∧ w1 = w') := Lib.hid ((cnew_any (bs s) w).mono fun v w' ⟨e, h⟩ => ⟨e, hw1.symm.trans h⟩)
  have HNUM := Lib.hid (cnum_any w.heap.size ⟨s, 0⟩ 400 w1 hr1)
  obtain ⟨N, hN, hN30⟩ := (⟨s, 0⟩ : Rd).num_nat 400
  have hN4 : N ≤ 400 := by have := (⟨s, 0⟩ : Rd).num_le 400 (by omega); omega
  obtain ⟨R0, hR0⟩ : ∃ R0, ((⟨s, 0⟩ : Rd).num 400).2 = R0 := ⟨_, rfl⟩
  obtain ⟨RR, hRR⟩ : ∃ RR, readLoop N R0 [] = RR := ⟨_, rfl⟩
  have HRM : Hid (readM s = if RR.2.done = 0 then (RR.1, 0) else ([], RR.2.done)) := Lib.hid (by unfold readM; simp only [hN, hR0, Int.toNat_natCast, hRR])
  have HL0 : Hid (R0.l.length ≤ s.length) := Lib.hid (by rw [← hR0]; exact (⟨s, 0⟩ : Rd).num_len 400)
  have HST := Lib.hid hRR
  have HE0 : Hid (R0.e ≠ 0 → N = 0) := Lib.hid (by
    rw [← hR0]
    intro he
    unfold Rd.num at he hN
    split at hN
    · simp only at hN; omega
    · split at hN
      · simp only at hN; omega
      · rename_i h1 h2
        rw [if_neg h1, if_neg h2] at he
        simp at he)
  rw [hN, hR0] at HNUM
  have HB1 := Lib.hid hb1
  have HZ1 := Lib.hid hz1
  have HD1 := Lib.hid (hd.below hb1)
  obtain ⟨i0, hi, hz0, hz1', hz2⟩ := info_parts info_Op8
  have HI := Lib.hid (And.intro hi (And.intro hz0 (And.intro hz1' hz2)))
  obtain ⟨S, hS⟩ : ∃ S, bs s = S := ⟨_, rfl⟩
  rw [hS] at HNEW ⊢
  have HS := Lib.hid hs
  clear hi hz0 hz1' hz2 hw1 hb1 hr1 hd hz1 hN hR0 hRR hS hs
  go_enter Tryd.func60, Tryd.ntmps60
  go_wp2_with fail
  refine HNEW.out.mono ?_
  rintro e w' ⟨rfl, rfl⟩
  go_wp2_with fail
  refine HNUM.out.mono ?_
  rintro e w2 ⟨rfl, h1, h2⟩
  have HS2 : Hid (ReadS 88 w.heap.size s.length w1 R0 w2) := Lib.hid ⟨h1, h2, HD1.out.of_block (h2.block 0 (by have := HZ1.out; omega) (by omega)), HL0.out⟩
  clear h1 h2
  go_wp2_with fail
  go_loopg [5, 11] N (fun g t5 t11 wr => ∃ (k m : Nat) (A : Option Addr) (c : Nat) (acc : List OpR) (r : Rd), Hid (g = N - k ∧ k ≤ N ∧ acc.length ≤ k) ∧ t11 = .int .i64 k ∧ t5 = .slice A m c ∧ Hid (wr.ownsRow w1.heap.size 30 8 (.slice A m c) m (opV acc)) ∧ Hid (readLoop (N - k) r acc = RR ∧ (r.e ≠ 0 → k = N)) ∧ Hid (ReadS 88 w.heap.size s.length w1 r wr))
  case atStart => exact ⟨0, 0, none, 0, [], R0, ⟨rfl, Nat.zero_le _, Nat.le_refl _⟩, rfl, rfl, World.ownsRow_nil _ _ _ _, ⟨HST.out, fun h => (HE0.out h).symm⟩, HS2.out⟩
  case round =>
    obtain ⟨k, m, A, cc, acc, r, HG, rfl, rfl, HO, HU, HR⟩ := hrel
    have HM : Hid (m = acc.length) := Lib.hid ((ops_own HO.out).1)
    have hk0 : (0 : Int) ≤ k := by omega
    by_cases hlt : k < N
    · have hlt' : (k : Int) < N := by omega
      have he : r.e = 0 := by
        rcases Decidable.em (r.e = 0) with h | h
        · exact h
        · have := HU.out.2 h; omega
      have HTK := Lib.hid (otake_any w.heap.size s.length r HR.out.len (by have := HS.out; omega) h0 wr HR.out.flds HR.out.rd)
      obtain ⟨x, r', hxr⟩ : ∃ x r', r.op = (x, r') := ⟨_, _, rfl⟩
      have HU2 : Hid (readLoop (N - (k + 1)) r' (acc ++ [x]) = RR) := Lib.hid (by
        have h := HU.out.1
        rw [show N - k = (N - (k + 1)) + 1 by omega] at h
        unfold readLoop at h
        rw [if_neg (by simpa using he), hxr] at h
        exact h)
      have HLR : Hid (r'.l.length ≤ s.length) := Lib.hid (by have h := r.op_len; rw [hxr] at h; exact Nat.le_trans h HR.out.len)
      rw [hxr] at HTK
      obtain ⟨kk, p, t, n, aa, mm, u, v⟩ := x
      clear hxr he
      go_wp2_with fail
      refine HTK.out.mono ?_
      rintro e w3 ⟨rfl, h1, h2⟩
      have HB3 : Hid (KeptBut w.heap.size w1 w3) := Lib.hid (HR.out.kept.trans h2)
      have HO2 : Hid (w3.ownsRow w1.heap.size 30 8 (.slice A m cc) m (opV acc)) := Lib.hid (own_keep HO.out (fun q hq => h2.block q (own_lt' HO.out q hq) (by have := own_ge' HO.out q hq; have := HZ1.out; omega)))
      have HRD3 := Lib.hid h1
      have HF3 : Hid (Flds w3) := Lib.hid (HR.out.flds.of_block (h2.block 0 (Nat.lt_of_le_of_lt (Nat.zero_le _) HR.out.rd.lt) (by omega)))
      simp only [OpR.cells]
      clear h1 h2
      go_wp2_with (at_builtin; refine wpList_append_own _ rfl _ _ 57 rfl w1.heap.size 30 i0 opZ8 8 80 Tryd.underlying57 HI.out.1 HI.out.2.1 HI.out.2.2.1 HI.out.2.2.2 rfl (by decide) (.slice A m cc) m (opV acc) rfl (HO2.out.alloc _) _ 1 1 (opV [⟨kk, p, t, n, aa, mm, u, v⟩]) rfl rfl (cells_new w3 _ _) (opV_one _) (by have := HG.out; have := HM.out; unfold maxLen; omega) (by have := HG.out; have := HM.out; omega) (by have := HB3.out.size; simp; omega) ?_; intro v' w4 hown' hgrow hnil)
      obtain ⟨A4, c4, hv⟩ := own_shape hown'
      subst hv
      have HO3 : Hid (w4.ownsRow w1.heap.size 30 8 (.slice A4 (m + 1) c4) (m + 1) (opV (acc ++ [⟨kk, p, t, n, aa, mm, u, v⟩]))) := by rw [opV_append]; exact hown'
      have HRS : Hid (ReadS 88 w.heap.size s.length w1 r' w4) := Lib.hid (by
        have hg0 : ∀ q, q < w1.heap.size → w4.heap[q]? = w3.heap[q]? := fun q hq => by
          rw [hgrow.block q (by have := HB3.out.size; simp; omega) (fun e => by have := own_ge' HO2.out q e.symm; omega)]
          exact Below.heap_alloc _ _ _ (Nat.lt_of_lt_of_le hq HB3.out.size)
        exact ⟨HRD3.out.of_block (hg0 _ (by have := HZ1.out; omega)), (HB3.out.alloc _).grown hgrow (fun q e => own_ge' HO2.out q e), HF3.out.of_block (hg0 0 (by have := HZ1.out; omega)), HLR.out⟩)
      have HERR := Lib.hid (cerr_any w.heap.size (bs r'.l) r'.e w4 HRS.out.rd)
      clear hown' hgrow hnil
      by_cases he' : r'.e = 0
      · rw [he'] at HERR
        have HE' := Lib.hid he'
        clear he'
        go_wp2_with fail
        refine HERR.out.mono ?_
        rintro e w5 ⟨rfl, rfl⟩
        go_wp2_with fail
        go_roundg (N - (k + 1))
        case rel => exact ⟨k + 1, m + 1, A4, c4, acc ++ [⟨kk, p, t, n, aa, mm, u, v⟩], r', ⟨rfl, hlt, by have := HG.out; simp; omega⟩, by go_num, rfl, HO3, ⟨HU2.out, fun h => absurd HE'.out h⟩, HRS⟩
        case measure => have := HG.out; omega
      · have he2 : (r'.e == 0) = false := by simpa using he'
        have he3 : (r'.e != 0) = true := by simpa using he'
        have HE' := Lib.hid he'
        have HRRE : Hid (RR.2 = r') := Lib.hid (by
          have h := HU2.out
          rw [readLoop_stop _ _ he'] at h
          rw [← h])
        have HDN := Lib.hid (cdone_any w.heap.size (bs r'.l) r'.e w4 HRS.out.rd)
        rw [rdoneM_eq, Rd.done_stop _ he'] at HDN
        clear he'
        go_wp2_with fail
        refine HERR.out.mono ?_
        rintro e w5 ⟨rfl, rfl⟩
        go_wp2_with fail
        refine HDN.out.mono ?_
        rintro e w5 ⟨rfl, rfl⟩
        go_wp2_with fail
        go_ret2
        rw [HRM.out, HRRE.out, Rd.done_stop _ HE'.out, if_neg HE'.out]
        exact ⟨⟨fun h => absurd h HE'.out, fun _ => rfl⟩, HB1.out.trans ((HRS.out.kept.below (Nat.le_refl _) (by have := HZ1.out; omega)))⟩
    · have hlt' : ¬ (k : Int) < N := by omega
      have HRRE : Hid (RR = (acc, r)) := Lib.hid (by
        have h := HU.out.1
        rw [show N - k = 0 by omega] at h
        exact h.symm)
      have HDN := Lib.hid (cdone_any w.heap.size (bs r.l) r.e wr HR.out.rd)
      rw [rdoneM_eq] at HDN
      obtain ⟨D, hD⟩ : ∃ D, r.done = D := ⟨_, rfl⟩
      rw [hD] at HDN
      have HDD : Hid (RR.2.done = D) := Lib.hid (by rw [HRRE.out]; exact hD)
      clear hD
      by_cases hd0 : D = 0
      · subst hd0
        go_wp2_with fail
        refine HDN.out.mono ?_
        rintro e w5 ⟨rfl, rfl⟩
        go_wp2_with fail
        go_ret2
        rw [HRM.out, HDD.out, if_pos rfl, HRRE.out]
        exact ⟨⟨fun _ => ⟨A, cc, by rw [HM.out]; rfl, (ops_own HO.out).2⟩, fun h => absurd rfl h⟩, HB1.out.trans ((HR.out.kept.below (Nat.le_refl _) (by have := HZ1.out; omega)))⟩
      · have he2 : (D == 0) = false := by simpa using hd0
        have he3 : (D != 0) = true := by simpa using hd0
        have HD0 := Lib.hid hd0
        clear hd0
        go_wp2_with fail
        refine HDN.out.mono ?_
        rintro e w5 ⟨rfl, rfl⟩
        go_wp2_with fail
        go_ret2
        rw [HRM.out, HDD.out, if_neg HD0.out]
        exact ⟨⟨fun h => absurd h HD0.out, fun _ => rfl⟩, HB1.out.trans ((HR.out.kept.below (Nat.le_refl _) (by have := HZ1.out; omega)))⟩
end Go.Proofs.YtjmfdacnaodfdaaDoor

namespace Go.Proofs.YtjmfdacnaodfdaaDoor
set_option linter.unusedVariables false
set_option linter.unusedSimpArgs false
open Go.RowKit

set_option maxHeartbeats 4000000 in
set_option maxRecDepth 100000 in
theorem rread34_any (s : List UInt8) (hs : s.length ≤ 1000000000) (w : World) (hd : Flds w) (h0 : 0 < w.heap.size) :
    Calls Tryd.prog 39 #[.string (bs s)] w fun e w' => ReadPost (readM s) e w' ∧ Below w.heap.size w w' := by
  obtain ⟨S, hS⟩ : ∃ S, bs s = S := ⟨_, rfl⟩
  obtain ⟨w1, hw1⟩ : ∃ W, w.alloc (.cells #[.string S, .int .i64 0] 73) = W := ⟨_, rfl⟩
  have hb1 : Below w.heap.size w w1 := by rw [← hw1]; exact (Below.refl _ _).alloc (Nat.le_refl _) _
  have hz1 : w1.heap.size = w.heap.size + 1 := by rw [← hw1]; simp
  have hr1 : RdAt 73 w1 w.heap.size ⟨s, 0⟩ := by rw [← hw1, ← hS]; exact World.alloc_heap_new _ _
  have HNUM := Lib.hid (rnum_any' w.heap.size ⟨s, 0⟩ 400 w1 hr1)
  obtain ⟨N, hN, hN30⟩ := (⟨s, 0⟩ : Rd).num_nat 400
  have hN4 : N ≤ 400 := by have := (⟨s, 0⟩ : Rd).num_le 400 (by omega); omega
  obtain ⟨R0, hR0⟩ : ∃ R0, ((⟨s, 0⟩ : Rd).num 400).2 = R0 := ⟨_, rfl⟩
  obtain ⟨RR, hRR⟩ : ∃ RR, readLoop N R0 [] = RR := ⟨_, rfl⟩
  have HRM : Hid (readM s = if RR.2.done = 0 then (RR.1, 0) else ([], RR.2.done)) := Lib.hid (by unfold readM; simp only [hN, hR0, Int.toNat_natCast, hRR])
  have HL0 : Hid (R0.l.length ≤ s.length) := Lib.hid (by rw [← hR0]; exact (⟨s, 0⟩ : Rd).num_len 400)
  have HST := Lib.hid hRR
  rw [hN, hR0] at HNUM
  have HB1 := Lib.hid hb1
  have HZ1 := Lib.hid hz1
  have HD1 := Lib.hid (hd.below hb1)
  obtain ⟨i0, hi, hz0, hz1', hz2⟩ := info_parts info_Op8
  have HI := Lib.hid (And.intro hi (And.intro hz0 (And.intro hz1' hz2)))
  have HS := Lib.hid hs
  rw [hS]
  clear hi hz0 hz1' hz2 hb1 hr1 hd hz1 hN hR0 hRR hS hs
  go_enter Tryd.func39, Tryd.ntmps39
  go_wp2_with fail
  refine HNUM.out.mono ?_
  rintro e w2 ⟨rfl, h1, h2⟩
  have HS2 : Hid (ReadS 73 w.heap.size s.length w1 R0 w2) := Lib.hid ⟨h1, h2, HD1.out.of_block (h2.block 0 (by have := HZ1.out; omega) (by omega)), HL0.out⟩
  clear h1 h2 hw1
  go_wp2_with fail
  go_loopg [6, 7] N (fun g t6 t7 wr => ∃ (k m : Nat) (A : Option Addr) (c : Nat) (acc acc' : List OpR) (r : Rd), Hid (g = N - k ∧ k ≤ N ∧ acc.length ≤ k) ∧ t7 = .int .i64 k ∧ t6 = .slice A m c ∧ Hid (wr.ownsRow w1.heap.size 30 8 (.slice A m c) m (opV acc')) ∧ Hid (readLoop (N - k) r acc = RR ∧ acc'.length = acc.length ∧ (r.e = 0 → acc' = acc)) ∧ Hid (ReadS 73 w.heap.size s.length w1 r wr))
  case atStart => exact ⟨0, 0, none, 0, [], [], R0, ⟨rfl, Nat.zero_le _, Nat.le_refl _⟩, rfl, rfl, World.ownsRow_nil _ _ _ _, ⟨HST.out, rfl, fun _ => rfl⟩, HS2.out⟩
  case round =>
    obtain ⟨k, m, A, cc, acc, acc', r, HG, rfl, rfl, HO, HU, HR⟩ := hrel
    have HM : Hid (m = acc'.length) := Lib.hid ((ops_own HO.out).1)
    have hk0 : (0 : Int) ≤ k := by omega
    have c1 := HR.out.rd.cells.2.1
    by_cases hlt : k < N
    · have hlt' : (k : Int) < N := by omega
      by_cases he : r.e = 0
      · have HTK := Lib.hid (rtake34_any w.heap.size s.length r HR.out.len h0 wr HR.out.flds HR.out.rd)
        obtain ⟨x, r', hxr⟩ : ∃ x r', r.op = (x, r') := ⟨_, _, rfl⟩
        have HU2 : Hid (readLoop (N - (k + 1)) r' (acc ++ [x]) = RR) := Lib.hid (by
          have h := HU.out.1
          rw [show N - k = (N - (k + 1)) + 1 by omega] at h
          unfold readLoop at h
          rw [if_neg (by simpa using he), hxr] at h
          exact h)
        have HAC := Lib.hid (HU.out.2.2 he)
        have HLR : Hid (r'.l.length ≤ s.length) := Lib.hid (by have h := r.op_len; rw [hxr] at h; exact Nat.le_trans h HR.out.len)
        rw [hxr] at HTK
        rw [he] at c1
        clear hxr he
        go_wp2_with fail
        refine HTK.out.mono ?_
        rintro e w3 ⟨y, rfl, hy, h1, h2⟩
        have HY := Lib.hid hy
        have HB3 : Hid (KeptBut w.heap.size w1 w3) := Lib.hid (HR.out.kept.trans h2)
        have HO2 : Hid (w3.ownsRow w1.heap.size 30 8 (.slice A m cc) m (opV acc')) := Lib.hid (own_keep HO.out (fun q hq => h2.block q (own_lt' HO.out q hq) (by have := own_ge' HO.out q hq; have := HZ1.out; omega)))
        have HRD3 := Lib.hid h1
        have HF3 : Hid (Flds w3) := Lib.hid (HR.out.flds.of_block (h2.block 0 (Nat.lt_of_le_of_lt (Nat.zero_le _) HR.out.rd.lt) (by omega)))
        obtain ⟨kk, p, t, n, aa, mm, u, v⟩ := y
        simp only [OpR.cells]
        clear h1 h2 c1 hy
        go_wp2_with (at_builtin; refine wpList_append_own _ rfl _ _ 57 rfl w1.heap.size 30 i0 opZ8 8 80 Tryd.underlying57 HI.out.1 HI.out.2.1 HI.out.2.2.1 HI.out.2.2.2 rfl (by decide) (.slice A m cc) m (opV acc') rfl (HO2.out.alloc _) _ 1 1 (opV [⟨kk, p, t, n, aa, mm, u, v⟩]) rfl rfl (cells_new w3 _ _) (opV_one _) (by have := HG.out; have := HM.out; have := HU.out.2.1; unfold maxLen; omega) (by have := HG.out; have := HM.out; have := HU.out.2.1; omega) (by have := HB3.out.size; simp; omega) ?_; intro v' w4 hown' hgrow hnil)
        obtain ⟨A4, c4, hv⟩ := own_shape hown'
        subst hv
        have HO3 : Hid (w4.ownsRow w1.heap.size 30 8 (.slice A4 (m + 1) c4) (m + 1) (opV (acc' ++ [⟨kk, p, t, n, aa, mm, u, v⟩]))) := by rw [opV_append]; exact hown'
        have HRS : Hid (ReadS 73 w.heap.size s.length w1 r' w4) := Lib.hid (by
          have hg0 : ∀ q, q < w1.heap.size → w4.heap[q]? = w3.heap[q]? := fun q hq => by
            rw [hgrow.block q (by have := HB3.out.size; simp; omega) (fun e => by have := own_ge' HO2.out q e.symm; omega)]
            exact Below.heap_alloc _ _ _ (Nat.lt_of_lt_of_le hq HB3.out.size)
          exact ⟨HRD3.out.of_block (hg0 _ (by have := HZ1.out; omega)), (HB3.out.alloc _).grown hgrow (fun q e => own_ge' HO2.out q e), HF3.out.of_block (hg0 0 (by have := HZ1.out; omega)), HLR.out⟩)
        clear hown' hgrow hnil
        go_wp2_with fail
        go_roundg (N - (k + 1))
        case rel => exact ⟨k + 1, m + 1, A4, c4, acc ++ [x], acc' ++ [⟨kk, p, t, n, aa, mm, u, v⟩], r', ⟨rfl, hlt, by have := HG.out; simp; omega⟩, by go_num, rfl, HO3, ⟨HU2.out, by have := HU.out.2.1; simp; exact this, fun h => by rw [HAC.out, HY.out h]⟩, HRS⟩
        case measure => have := HG.out; omega
      · have he2 : (r.e == 0) = false := by simpa using he
        have he3 : (r.e != 0) = true := by simpa using he
        have HE' := Lib.hid he
        have HRRE : Hid (RR.2 = r) := Lib.hid (by
          have h := HU.out.1
          rw [readLoop_stop _ _ he] at h
          rw [← h])
        have HDN := Lib.hid (rdone_any' w.heap.size r wr HR.out.rd)
        rw [Rd.done_stop _ he] at HDN
        clear he
        go_wp2_with fail
        refine HDN.out.mono ?_
        rintro e w5 ⟨rfl, rfl⟩
        go_wp2_with fail
        go_ret2
        rw [HRM.out, HRRE.out, Rd.done_stop _ HE'.out, if_neg HE'.out]
        exact ⟨⟨fun h => absurd h HE'.out, fun _ => rfl⟩, HB1.out.trans ((HR.out.kept.below (Nat.le_refl _) (by have := HZ1.out; omega)))⟩
    · have hlt' : ¬ (k : Int) < N := by omega
      have HRRE : Hid (RR = (acc, r)) := Lib.hid (by
        have h := HU.out.1
        rw [show N - k = 0 by omega] at h
        exact h.symm)
      have HDN := Lib.hid (rdone_any' w.heap.size r wr HR.out.rd)
      have HDE : Hid (r.done = 0 → r.e = 0) := Lib.hid (by
        intro h
        unfold Rd.done at h
        split at h
        · assumption
        · exact h)
      obtain ⟨D, hD⟩ : ∃ D, r.done = D := ⟨_, rfl⟩
      rw [hD] at HDN HDE
      have HDD : Hid (RR.2.done = D) := Lib.hid (by rw [HRRE.out]; exact hD)
      clear hD c1
      by_cases hd0 : D = 0
      · subst hd0
        have HAC := Lib.hid (HU.out.2.2 (HDE.out rfl))
        clear HDE
        go_wp2_with fail
        refine HDN.out.mono ?_
        rintro e w5 ⟨rfl, rfl⟩
        go_wp2_with fail
        go_ret2
        rw [HRM.out, HDD.out, if_pos rfl, HRRE.out]
        exact ⟨⟨fun _ => ⟨A, cc, by rw [HM.out, HU.out.2.1]; rfl, by have := (ops_own HO.out).2; rw [HAC.out] at this; exact this⟩, fun h => absurd rfl h⟩, HB1.out.trans ((HR.out.kept.below (Nat.le_refl _) (by have := HZ1.out; omega)))⟩
      · have he2 : (D == 0) = false := by simpa using hd0
        have he3 : (D != 0) = true := by simpa using hd0
        have HD0 := Lib.hid hd0
        clear hd0 HDE
        go_wp2_with fail
        refine HDN.out.mono ?_
        rintro e w5 ⟨rfl, rfl⟩
        go_wp2_with fail
        go_ret2
        rw [HRM.out, HDD.out, if_neg HD0.out]
        exact ⟨⟨fun h => absurd h HD0.out, fun _ => rfl⟩, HB1.out.trans ((HR.out.kept.below (Nat.le_refl _) (by have := HZ1.out; omega)))⟩
end Go.Proofs.YtjmfdacnaodfdaaDoor

namespace Go.Proofs.YtjmfdacnaodfdaaDoor
set_option linter.unusedVariables false
set_option linter.unusedSimpArgs false
open Go.RowKit Go.Proofs.YtjmfdacnaodfdaaDoorW.PrintWords

structure EvR where
  at_ : Int
  op : OpR
  err : Int
  dp : Int
  dc : Int
def EvR.cells (x : EvR) : Array Value := #[.int .i64 x.at_, .int .i64 x.op.k, .int .i64 x.op.p, .int .i64 x.op.t, .int .i64 x.op.n, .int .i64 x.op.a, .int .i64 x.op.m, .string x.op.u, .string x.op.v, .int .i64 x.err, .int .i64 x.dp, .int .i64 x.dc]
def EvBox (w : World) (b : Nat) (x : EvR) : Prop := w.heap[b]? = some (.cells x.cells 34 (0, 0))
theorem EvBox.cells {w : World} {b : Nat} {x : EvR} (h : EvBox w b x) :
    w.cell? ⟨b, 0, none⟩ = some (.int .i64 x.at_) ∧ w.cell? ⟨b, 1, none⟩ = some (.int .i64 x.op.k) ∧ w.cell? ⟨b, 2, none⟩ = some (.int .i64 x.op.p) ∧ w.cell? ⟨b, 3, none⟩ = some (.int .i64 x.op.t) ∧ w.cell? ⟨b, 4, none⟩ = some (.int .i64 x.op.n) ∧ w.cell? ⟨b, 5, none⟩ = some (.int .i64 x.op.a) ∧ w.cell? ⟨b, 6, none⟩ = some (.int .i64 x.op.m) ∧ w.cell? ⟨b, 7, none⟩ = some (.string x.op.u) ∧ w.cell? ⟨b, 8, none⟩ = some (.string x.op.v) ∧ w.cell? ⟨b, 9, none⟩ = some (.int .i64 x.err) ∧ w.cell? ⟨b, 10, none⟩ = some (.int .i64 x.dp) ∧ w.cell? ⟨b, 11, none⟩ = some (.int .i64 x.dc) := by
  refine ⟨?_, ?_, ?_, ?_, ?_, ?_, ?_, ?_, ?_, ?_, ?_, ?_⟩ <;> (rw [Lib.cell_of_heap h]; rfl)
theorem EvBox.lt {w : World} {b : Nat} {x : EvR} (h : EvBox w b x) : b < w.heap.size := by
  rcases Nat.lt_or_ge b w.heap.size with h' | h'
  · exact h'
  · unfold EvBox at h
    simp [Array.getElem?_eq_none h'] at h
theorem EvBox.below {w w' : World} {b : Nat} {x : EvR} (h : EvBox w b x) (hb : Below w.heap.size w w') : EvBox w' b x := by
  have hlt := h.lt
  unfold EvBox at h ⊢
  rw [hb.block b hlt]
  exact h
theorem EvBox.keptW {w w' : World} {b c : Nat} {x : EvR} (h : EvBox w c x) (hk : KeptW b w w') (hne : c ≠ b) : EvBox w' c x := hk.heap h hne (by decide)
theorem EvBox.keptBut {w w' : World} {b c : Nat} {x : EvR} (h : EvBox w c x) (hk : KeptBut b w w') (hne : c ≠ b) : EvBox w' c x := by
  have hlt := h.lt
  unfold EvBox at h ⊢
  rw [hk.block c hlt hne]
  exact h
theorem part_intD (w : World) (cs : Array Value) (o : Nat) (v : Value) (h : cs[o]? = some v) : (part 3 cs o).run Tryd.prog w = .ok v w := by
  have ha : (isAgg 3).run Tryd.prog w = .ok false w := by kernel_rfl
  simp [part, Sem.run_bind, ha, h, Result.andThen]
set_option maxRecDepth 100000 in
theorem dot_equal (w : World) (a b c d : Int) : (Op.equalIn 10000 32 (.agg #[.int .i64 a, .int .i64 b]) (.agg #[.int .i64 c, .int .i64 d])).run Tryd.prog w = .ok (a == c && b == d) w := by
  refine eqA_of (d := 9999) Tryd.underlying32 (by kernel_rfl) ?_
  refine eqf_cons (by decide) (part_intD w _ _ _ rfl) (part_intD w _ _ _ rfl) (run_equalIn_int w 9998 _ _ _ _ _ Tryd.underlying3) ?_
  exact eqf_last (by decide) (part_intD w _ _ _ rfl) (part_intD w _ _ _ rfl) (run_equalIn_int w 9998 _ _ _ _ _ Tryd.underlying3)

def dotM (p c : Int) : Int := if p < 0 then 11 else if 63 < p then 11 else if c < 1 then 12 else if 1048576 < c then 12 else 0
theorem vdot_any (p c : Int) (w : World) : Calls Tryd.prog 53 #[.agg #[.int .i64 p, .int .i64 c]] w fun e w' => e = .returned (.int .i64 (dotM p c)) ∧ Below w.heap.size w w' := by
  have HM : Hid (dotM p c = dotM p c) := Lib.hid rfl
  unfold dotM
  by_cases h1 : p < 0
  · rw [if_pos h1]
    go_enter Tryd.func53, Tryd.ntmps53
    go_wp2_with fail
    go_ret
    exact ⟨rfl, (Below.refl _ _).alloc (Nat.le_refl _) _⟩
  · rw [if_neg h1]
    by_cases h2 : 63 < p
    · rw [if_pos h2]
      have h2' : (64 : Int) ≤ p := by omega
      go_enter Tryd.func53, Tryd.ntmps53
      go_wp2_with fail
      go_ret
      exact ⟨rfl, (Below.refl _ _).alloc (Nat.le_refl _) _⟩
    · rw [if_neg h2]
      have h2' : ¬ (64 : Int) ≤ p := by omega
      by_cases h3 : c < 1
      · rw [if_pos h3]
        go_enter Tryd.func53, Tryd.ntmps53
        go_wp2_with fail
        go_ret
        exact ⟨rfl, (Below.refl _ _).alloc (Nat.le_refl _) _⟩
      · rw [if_neg h3]
        by_cases h4 : 1048576 < c
        · rw [if_pos h4]
          go_enter Tryd.func53, Tryd.ntmps53
          go_wp2_with fail
          go_ret
          exact ⟨rfl, (Below.refl _ _).alloc (Nat.le_refl _) _⟩
        · rw [if_neg h4]
          go_enter Tryd.func53, Tryd.ntmps53
          go_wp2_with fail
          go_ret
          exact ⟨rfl, (Below.refl _ _).alloc (Nat.le_refl _) _⟩
theorem rdot_any (p c : Int) (w : World) : Calls Tryd.prog 28 #[.agg #[.int .i64 p, .int .i64 c]] w fun e w' => e = .returned (.int .i64 (dotM p c)) ∧ Below w.heap.size w w' := by
  have HM : Hid (dotM p c = dotM p c) := Lib.hid rfl
  unfold dotM
  by_cases h1 : p < 0
  · rw [if_pos h1]
    go_enter Tryd.func28, Tryd.ntmps28
    go_wp2_with fail
    go_ret
    exact ⟨rfl, (Below.refl _ _).alloc (Nat.le_refl _) _⟩
  · rw [if_neg h1]
    by_cases h2 : 63 < p
    · rw [if_pos h2]
      have h2' : (64 : Int) ≤ p := by omega
      go_enter Tryd.func28, Tryd.ntmps28
      go_wp2_with fail
      go_ret
      exact ⟨rfl, (Below.refl _ _).alloc (Nat.le_refl _) _⟩
    · rw [if_neg h2]
      have h2' : ¬ (64 : Int) ≤ p := by omega
      by_cases h3 : c < 1
      · rw [if_pos h3]
        go_enter Tryd.func28, Tryd.ntmps28
        go_wp2_with fail
        go_ret
        exact ⟨rfl, (Below.refl _ _).alloc (Nat.le_refl _) _⟩
      · rw [if_neg h3]
        by_cases h4 : 1048576 < c
        · rw [if_pos h4]
          go_enter Tryd.func28, Tryd.ntmps28
          go_wp2_with fail
          go_ret
          exact ⟨rfl, (Below.refl _ _).alloc (Nat.le_refl _) _⟩
        · rw [if_neg h4]
          go_enter Tryd.func28, Tryd.ntmps28
          go_wp2_with fail
          go_ret
          exact ⟨rfl, (Below.refl _ _).alloc (Nat.le_refl _) _⟩

theorem vcheck1_any (p c : Int) (cap : Nat) (b : Nat) (w : World) (hb : w.heap[b]? = some (.cells #[.int .i64 p, .int .i64 c] 32 (0, 0))) :
    Calls Tryd.prog 26 #[.slice (some ⟨b, 0, none⟩) 1 cap] w fun e w' => e = .returned (.int .i64 (dotM p c)) ∧ Below w.heap.size w w' := by
  have c0 : w.cell? ⟨b, 0, none⟩ = some (.int .i64 p) := by rw [Lib.cell_of_heap hb]; rfl
  have c1 : w.cell? ⟨b, 1, none⟩ = some (.int .i64 c) := by rw [Lib.cell_of_heap hb]; rfl
  have HBX := Lib.hid hb
  have HV := Lib.hid (vdot_any p c (w.alloc (.cells #[.int .i64 p, .int .i64 c] 32)))
  have HB1 : Hid (Below w.heap.size w (w.alloc (.cells #[.int .i64 p, .int .i64 c] 32))) := Lib.hid ((Below.refl _ _).alloc (Nat.le_refl _) _)
  have HN1 : Hid ((w.alloc (.cells #[.int .i64 p, .int .i64 c] 32)).heap[w.heap.size]? = some (.cells #[.int .i64 p, .int .i64 c] 32 (0, 0))) := Lib.hid (World.alloc_heap_new _ _)
  obtain ⟨D, hD⟩ : ∃ D, dotM p c = D := ⟨_, rfl⟩
  have HDP : Hid (D = 0 → 0 ≤ p) := Lib.hid (by
    intro h
    rw [← hD] at h
    unfold dotM at h
    split at h
    · omega
    · rename_i h1; omega)
  rw [hD] at HV ⊢
  clear hb hD
  go_enter Tryd.func26, Tryd.ntmps26
  go_wp2_with fail
  go_loopg [3, 5, 6, 9] 1 (fun g t3 t5 t6 t9 wr => ∃ i : Nat, Hid (g = 1 - i ∧ i ≤ 1) ∧ t9 = .int .i64 i ∧ Hid (i = 0 → t3 = .int .i64 (-1) ∧ w = wr) ∧ Hid (i = 1 → D = 0 ∧ Below w.heap.size w wr))
  case atStart => exact ⟨0, ⟨rfl, Nat.zero_le _⟩, rfl, fun _ => ⟨rfl, rfl⟩, fun h => absurd h (by decide)⟩
  case round =>
    obtain ⟨i, HG, rfl, H0, H1⟩ := hrel
    by_cases hi : i < 1
    · obtain rfl : i = 0 := by omega
      obtain ⟨rfl, rfl⟩ := H0.out rfl
      by_cases hd : D = 0
      · subst hd
        have hp : ¬ p ≤ -1 := by have := HDP.out rfl; omega
        clear H0 H1 HDP
        go_wp2_with fail
        refine HV.out.mono ?_
        rintro e w2 ⟨rfl, hb2⟩
        have HB2 := Lib.hid (HB1.out.trans (hb2.mono (by simp)))
        have d0 : w2.cell? ⟨w.heap.size, 0, none⟩ = some (.int .i64 p) := by
          rw [cell_below_iff hb2 (by simp) 0, Lib.cell_of_heap HN1.out]; rfl
        clear hb2
        go_wp2_with fail
        go_roundg 0
        case rel => exact ⟨1, ⟨rfl, Nat.le_refl _⟩, rfl, fun h => absurd h (by decide), fun _ => ⟨by trivial, HB2.out⟩⟩
        case measure => have := HG.out; omega
      · have he2 : (D == 0) = false := by simpa using hd
        have he3 : (D != 0) = true := by simpa using hd
        clear H0 H1 hd HDP
        go_wp2_with fail
        refine HV.out.mono ?_
        rintro e w2 ⟨rfl, hb2⟩
        have HB2 := Lib.hid (HB1.out.trans (hb2.mono (by simp)))
        clear hb2
        go_wp2_with fail
        go_ret
        exact ⟨rfl, HB2.out⟩
    · obtain rfl : i = 1 := by have := HG.out.2; omega
      obtain ⟨rfl, hb2⟩ := H1.out rfl
      have HB2 := Lib.hid hb2
      clear hb2 H0 H1
      go_wp2_with fail
      go_ret
      exact ⟨rfl, HB2.out⟩

/-- May an event be? -/
def evM (x : EvR) : Int :=
  if x.at_ < 0 then 12 else if 399 < x.at_ then 12 else if x.err < 0 then 15 else if 16 < x.err then 15 else
  if checkM x.op ≠ 0 then checkM x.op else if x.dp = 0 ∧ x.dc = 0 then 0 else if x.err ≠ 0 then 7 else dotM x.dp x.dc

set_option maxHeartbeats 4000000 in
set_option maxRecDepth 100000 in
theorem tcheck_any (x : EvR) (w : World) (hd : Flds w) :
    Calls Tryd.prog 10 #[.agg x.cells] w fun e w' => e = .returned (.int .i64 (evM x)) ∧ Below w.heap.size w w' := by
  obtain ⟨at_, ⟨k, p, t, n, a, m, u, v⟩, er, dp, dc⟩ := x
  obtain ⟨w1, hw1⟩ : ∃ W, w.alloc (.cells #[.int .i64 at_, .int .i64 k, .int .i64 p, .int .i64 t, .int .i64 n, .int .i64 a, .int .i64 m, .string u, .string v, .int .i64 er, .int .i64 dp, .int .i64 dc] 34) = W := ⟨_, rfl⟩
  have hb1 : Below w.heap.size w w1 := by rw [← hw1]; exact (Below.refl _ _).alloc (Nat.le_refl _) _
  have hbox : EvBox w1 w.heap.size ⟨at_, ⟨k, p, t, n, a, m, u, v⟩, er, dp, dc⟩ := by rw [← hw1]; exact World.alloc_heap_new _ _
  obtain ⟨c0, c1, c2, c3, c4, c5, c6, c7, c8, c9, c10, c11⟩ := hbox.cells
  simp only at c0 c1 c2 c3 c4 c5 c6 c7 c8 c9 c10 c11
  have HBOX := Lib.hid hbox
  have HB1 := Lib.hid hb1
  have HC := Lib.hid (check_any ⟨k, p, t, n, a, m, u, v⟩ w1 (hd.below hb1))
  simp only [OpR.cells] at HC
  obtain ⟨E, hE⟩ : ∃ E, checkM ⟨k, p, t, n, a, m, u, v⟩ = E := ⟨_, rfl⟩
  have hM : evM ⟨at_, ⟨k, p, t, n, a, m, u, v⟩, er, dp, dc⟩ = if at_ < 0 then 12 else if 399 < at_ then 12 else if er < 0 then 15 else if 16 < er then 15 else if E ≠ 0 then E else if dp = 0 ∧ dc = 0 then 0 else if er ≠ 0 then 7 else dotM dp dc := by rw [← hE]; rfl
  rw [hM]
  rw [hE] at HC
  simp only [EvR.cells]
  clear hb1 hbox hd hE hM
  by_cases h1 : at_ < 0
  · rw [if_pos h1]
    go_enter Tryd.func10, Tryd.ntmps10
    go_wp2_with fail
    go_ret
    exact ⟨rfl, HB1.out⟩
  · rw [if_neg h1]
    by_cases h2 : 399 < at_
    · rw [if_pos h2]
      have h2' : (400 : Int) ≤ at_ := by omega
      go_enter Tryd.func10, Tryd.ntmps10
      go_wp2_with fail
      go_ret
      exact ⟨rfl, HB1.out⟩
    · rw [if_neg h2]
      have h2' : ¬ (400 : Int) ≤ at_ := by omega
      by_cases h3 : er < 0
      · rw [if_pos h3]
        go_enter Tryd.func10, Tryd.ntmps10
        go_wp2_with fail
        go_ret
        exact ⟨rfl, HB1.out⟩
      · rw [if_neg h3]
        by_cases h4 : 16 < er
        · rw [if_pos h4]
          go_enter Tryd.func10, Tryd.ntmps10
          go_wp2_with fail
          go_ret
          exact ⟨rfl, HB1.out⟩
        · rw [if_neg h4]
          by_cases h5 : E = 0
          · rw [if_neg (fun h => h h5)]
            subst h5
            by_cases h6 : dp = 0 ∧ dc = 0
            · rw [if_pos h6]
              obtain ⟨rfl, rfl⟩ := h6
              have heq : ∀ w', (Op.equalIn 10000 32 (.agg #[.int .i64 0, .int .i64 0]) (.agg #[.int .i64 0, .int .i64 0])).run Tryd.prog w' = .ok true w' := fun w' => dot_equal w' 0 0 0 0
              go_enter Tryd.func10, Tryd.ntmps10
              go_wp2_with fail
              refine HC.out.mono ?_
              rintro e w2 ⟨rfl, hb2⟩
              have HB2 := Lib.hid (HB1.out.trans (hb2.mono HB1.out.size))
              obtain ⟨d0, d1, d2, d3, d4, d5, d6, d7, d8, d9, d10, d11⟩ := (HBOX.out.below hb2).cells
              simp only at d0 d1 d2 d3 d4 d5 d6 d7 d8 d9 d10 d11
              clear hb2 hw1 c0 c1 c2 c3 c4 c5 c6 c7 c8 c9 c10 c11
              go_wp2_with fail
              go_ret
              exact ⟨rfl, HB2.out⟩
            · rw [if_neg h6]
              have hq : (dp == 0 && dc == 0) = false := by
                rw [Bool.and_eq_false_iff]
                by_cases hz : dp = 0
                · exact .inr (by simpa using fun h => h6 ⟨hz, h⟩)
                · exact .inl (by simpa using hz)
              have heq : ∀ w', (Op.equalIn 10000 32 (.agg #[.int .i64 dp, .int .i64 dc]) (.agg #[.int .i64 0, .int .i64 0])).run Tryd.prog w' = .ok false w' := fun w' => by rw [dot_equal w' dp dc 0 0, hq]
              clear h6 hq
              by_cases h7 : er = 0
              · rw [if_neg (fun h => h h7)]
                subst h7
                have HDC : Hid (∀ w', Calls Tryd.prog 26 #[.slice (some ⟨w'.heap.size, 0, none⟩) 1 1] (w'.alloc (.cells #[.int .i64 dp, .int .i64 dc] 32)) fun e w'' => e = .returned (.int .i64 (dotM dp dc)) ∧ Below w'.heap.size w' w'') := Lib.hid (fun w' => (vcheck1_any dp dc 1 w'.heap.size _ (World.alloc_heap_new _ _)).mono fun e w'' h => ⟨h.1, ((Below.refl _ _).alloc (Nat.le_refl _) _).trans (h.2.mono (by simp))⟩)
                obtain ⟨D, hD⟩ : ∃ D, dotM dp dc = D := ⟨_, rfl⟩
                rw [hD] at HDC ⊢
                clear hD
                go_enter Tryd.func10, Tryd.ntmps10
                go_wp2_with fail
                refine HC.out.mono ?_
                rintro e w2 ⟨rfl, hb2⟩
                have HB2 := Lib.hid (HB1.out.trans (hb2.mono HB1.out.size))
                obtain ⟨d0, d1, d2, d3, d4, d5, d6, d7, d8, d9, d10, d11⟩ := (HBOX.out.below hb2).cells
                simp only at d0 d1 d2 d3 d4 d5 d6 d7 d8 d9 d10 d11
                clear hb2 hw1 c0 c1 c2 c3 c4 c5 c6 c7 c8 c9 c10 c11
                go_wp2_with fail
                refine (HDC.out _).mono ?_
                rintro e w3 ⟨rfl, hb3⟩
                have HB3 := Lib.hid (HB2.out.trans (hb3.mono HB2.out.size))
                clear hb3
                go_wp2_with fail
                go_ret
                exact ⟨rfl, HB3.out⟩
              · rw [if_pos h7]
                have he2 : (er == 0) = false := by simpa using h7
                have he3 : (er != 0) = true := by simpa using h7
                clear h7
                go_enter Tryd.func10, Tryd.ntmps10
                go_wp2_with fail
                refine HC.out.mono ?_
                rintro e w2 ⟨rfl, hb2⟩
                have HB2 := Lib.hid (HB1.out.trans (hb2.mono HB1.out.size))
                obtain ⟨d0, d1, d2, d3, d4, d5, d6, d7, d8, d9, d10, d11⟩ := (HBOX.out.below hb2).cells
                simp only at d0 d1 d2 d3 d4 d5 d6 d7 d8 d9 d10 d11
                clear hb2 hw1 c0 c1 c2 c3 c4 c5 c6 c7 c8 c9 c10 c11
                go_wp2_with fail
                go_ret
                exact ⟨rfl, HB2.out⟩
          · rw [if_pos h5]
            have he2 : (E == 0) = false := by simpa using h5
            have he3 : (E != 0) = true := by simpa using h5
            clear h5
            go_enter Tryd.func10, Tryd.ntmps10
            go_wp2_with fail
            refine HC.out.mono ?_
            rintro e w2 ⟨rfl, hb2⟩
            have HB2 := Lib.hid (HB1.out.trans (hb2.mono HB1.out.size))
            obtain ⟨d0, d1, d2, d3, d4, d5, d6, d7, d8, d9, d10, d11⟩ := (HBOX.out.below hb2).cells
            simp only at d0 d1 d2 d3 d4 d5 d6 d7 d8 d9 d10 d11
            clear hb2 hw1 c0 c1 c2 c3 c4 c5 c6 c7 c8 c9 c10 c11
            go_wp2_with fail
            go_ret
            exact ⟨rfl, HB2.out⟩

set_option maxHeartbeats 4000000 in
set_option maxRecDepth 100000 in
theorem rcheck40_any (x : EvR) (w : World) (hd : Flds w) :
    Calls Tryd.prog 11 #[.agg x.cells] w fun e w' => e = .returned (.int .i64 (evM x)) ∧ Below w.heap.size w w' := by
  obtain ⟨at_, ⟨k, p, t, n, a, m, u, v⟩, er, dp, dc⟩ := x
  obtain ⟨w1, hw1⟩ : ∃ W, w.alloc (.cells #[.int .i64 at_, .int .i64 k, .int .i64 p, .int .i64 t, .int .i64 n, .int .i64 a, .int .i64 m, .string u, .string v, .int .i64 er, .int .i64 dp, .int .i64 dc] 34) = W := ⟨_, rfl⟩
  have hb1 : Below w.heap.size w w1 := by rw [← hw1]; exact (Below.refl _ _).alloc (Nat.le_refl _) _
  have hbox : EvBox w1 w.heap.size ⟨at_, ⟨k, p, t, n, a, m, u, v⟩, er, dp, dc⟩ := by rw [← hw1]; exact World.alloc_heap_new _ _
  obtain ⟨c0, c1, c2, c3, c4, c5, c6, c7, c8, c9, c10, c11⟩ := hbox.cells
  simp only at c0 c1 c2 c3 c4 c5 c6 c7 c8 c9 c10 c11
  have HBOX := Lib.hid hbox
  have HB1 := Lib.hid hb1
  have HC := Lib.hid (rcheck_any ⟨k, p, t, n, a, m, u, v⟩ w1)
  rw [rcheck_eq] at HC
  simp only [OpR.cells] at HC
  obtain ⟨E, hE⟩ : ∃ E, checkM ⟨k, p, t, n, a, m, u, v⟩ = E := ⟨_, rfl⟩
  have hM : evM ⟨at_, ⟨k, p, t, n, a, m, u, v⟩, er, dp, dc⟩ = if at_ < 0 then 12 else if 399 < at_ then 12 else if er < 0 then 15 else if 16 < er then 15 else if E ≠ 0 then E else if dp = 0 ∧ dc = 0 then 0 else if er ≠ 0 then 7 else dotM dp dc := by rw [← hE]; rfl
  rw [hM]
  rw [hE] at HC
  simp only [EvR.cells]
  clear hb1 hbox hd hE hM
  by_cases h1 : at_ < 0
  · rw [if_pos h1]
    go_enter Tryd.func11, Tryd.ntmps11
    go_wp2_with fail
    go_ret
    exact ⟨rfl, HB1.out⟩
  · rw [if_neg h1]
    by_cases h2 : 399 < at_
    · rw [if_pos h2]
      have h2' : (400 : Int) ≤ at_ := by omega
      go_enter Tryd.func11, Tryd.ntmps11
      go_wp2_with fail
      go_ret
      exact ⟨rfl, HB1.out⟩
    · rw [if_neg h2]
      have h2' : ¬ (400 : Int) ≤ at_ := by omega
      by_cases h3 : er < 0
      · rw [if_pos h3]
        go_enter Tryd.func11, Tryd.ntmps11
        go_wp2_with fail
        go_ret
        exact ⟨rfl, HB1.out⟩
      · rw [if_neg h3]
        by_cases h4 : 16 < er
        · rw [if_pos h4]
          go_enter Tryd.func11, Tryd.ntmps11
          go_wp2_with fail
          go_ret
          exact ⟨rfl, HB1.out⟩
        · rw [if_neg h4]
          by_cases h5 : E = 0
          · rw [if_neg (fun h => h h5)]
            subst h5
            by_cases h6 : dp = 0 ∧ dc = 0
            · rw [if_pos h6]
              obtain ⟨rfl, rfl⟩ := h6
              have heq : ∀ w', (Op.equalIn 10000 32 (.agg #[.int .i64 0, .int .i64 0]) (.agg #[.int .i64 0, .int .i64 0])).run Tryd.prog w' = .ok true w' := fun w' => dot_equal w' 0 0 0 0
              go_enter Tryd.func11, Tryd.ntmps11
              go_wp2_with fail
              refine HC.out.mono ?_
              rintro e w2 ⟨rfl, hb2⟩
              have HB2 := Lib.hid (HB1.out.trans (hb2.mono HB1.out.size))
              obtain ⟨d0, d1, d2, d3, d4, d5, d6, d7, d8, d9, d10, d11⟩ := (HBOX.out.below hb2).cells
              simp only at d0 d1 d2 d3 d4 d5 d6 d7 d8 d9 d10 d11
              clear hb2 hw1 c0 c1 c2 c3 c4 c5 c6 c7 c8 c9 c10 c11
              go_wp2_with fail
              go_ret
              exact ⟨rfl, HB2.out⟩
            · rw [if_neg h6]
              have hq : (dp == 0 && dc == 0) = false := by
                rw [Bool.and_eq_false_iff]
                by_cases hz : dp = 0
                · exact .inr (by simpa using fun h => h6 ⟨hz, h⟩)
                · exact .inl (by simpa using hz)
              have heq : ∀ w', (Op.equalIn 10000 32 (.agg #[.int .i64 dp, .int .i64 dc]) (.agg #[.int .i64 0, .int .i64 0])).run Tryd.prog w' = .ok false w' := fun w' => by rw [dot_equal w' dp dc 0 0, hq]
              clear h6 hq
              by_cases h7 : er = 0
              · rw [if_neg (fun h => h h7)]
                subst h7
                have HDC : Hid (∀ w', Calls Tryd.prog 28 #[.agg #[.int .i64 dp, .int .i64 dc]] w' fun e w'' => e = .returned (.int .i64 (dotM dp dc)) ∧ Below w'.heap.size w' w'') := Lib.hid (fun w' => rdot_any dp dc w')
                obtain ⟨D, hD⟩ : ∃ D, dotM dp dc = D := ⟨_, rfl⟩
                rw [hD] at HDC ⊢
                clear hD
                go_enter Tryd.func11, Tryd.ntmps11
                go_wp2_with fail
                refine HC.out.mono ?_
                rintro e w2 ⟨rfl, hb2⟩
                have HB2 := Lib.hid (HB1.out.trans (hb2.mono HB1.out.size))
                obtain ⟨d0, d1, d2, d3, d4, d5, d6, d7, d8, d9, d10, d11⟩ := (HBOX.out.below hb2).cells
                simp only at d0 d1 d2 d3 d4 d5 d6 d7 d8 d9 d10 d11
                clear hb2 hw1 c0 c1 c2 c3 c4 c5 c6 c7 c8 c9 c10 c11
                go_wp2_with fail
                refine (HDC.out _).mono ?_
                rintro e w3 ⟨rfl, hb3⟩
                have HB3 := Lib.hid (HB2.out.trans (hb3.mono HB2.out.size))
                clear hb3
                go_wp2_with fail
                go_ret
                exact ⟨rfl, HB3.out⟩
              · rw [if_pos h7]
                have he2 : (er == 0) = false := by simpa using h7
                have he3 : (er != 0) = true := by simpa using h7
                clear h7
                go_enter Tryd.func11, Tryd.ntmps11
                go_wp2_with fail
                refine HC.out.mono ?_
                rintro e w2 ⟨rfl, hb2⟩
                have HB2 := Lib.hid (HB1.out.trans (hb2.mono HB1.out.size))
                obtain ⟨d0, d1, d2, d3, d4, d5, d6, d7, d8, d9, d10, d11⟩ := (HBOX.out.below hb2).cells
                simp only at d0 d1 d2 d3 d4 d5 d6 d7 d8 d9 d10 d11
                clear hb2 hw1 c0 c1 c2 c3 c4 c5 c6 c7 c8 c9 c10 c11
                go_wp2_with fail
                go_ret
                exact ⟨rfl, HB2.out⟩
          · rw [if_pos h5]
            have he2 : (E == 0) = false := by simpa using h5
            have he3 : (E != 0) = true := by simpa using h5
            clear h5
            go_enter Tryd.func11, Tryd.ntmps11
            go_wp2_with fail
            refine HC.out.mono ?_
            rintro e w2 ⟨rfl, hb2⟩
            have HB2 := Lib.hid (HB1.out.trans (hb2.mono HB1.out.size))
            obtain ⟨d0, d1, d2, d3, d4, d5, d6, d7, d8, d9, d10, d11⟩ := (HBOX.out.below hb2).cells
            simp only at d0 d1 d2 d3 d4 d5 d6 d7 d8 d9 d10 d11
            clear hb2 hw1 c0 c1 c2 c3 c4 c5 c6 c7 c8 c9 c10 c11
            go_wp2_with fail
            go_ret
            exact ⟨rfl, HB2.out⟩
end Go.Proofs.YtjmfdacnaodfdaaDoor

namespace Go.Proofs.YtjmfdacnaodfdaaDoor
set_option linter.unusedVariables false
set_option linter.unusedSimpArgs false
open Go.RowKit

/-- What is thrown of an error. -/
def thrownV (f : Int) : Value := .iface 79 (.agg #[.int .i64 f])
theorem need_ok (w : World) : Calls Tryd.prog 33 #[.int .i64 0] w fun e w' => e = .returned (.tuple #[]) ∧ w = w' := by
  go_enter Tryd.func33, Tryd.ntmps33
  go_wp2
  go_end0
  exact ⟨rfl, rfl⟩
theorem need_bad (f : Int) (hf : f ≠ 0) (w : World) : Calls Tryd.prog 33 #[.int .i64 f] w fun e w' => e = .panicked [{ v := thrownV f, recovered := false }] ∧ w = w' := by
  have he2 : (f == 0) = false := by simpa using hf
  have he3 : (f != 0) = true := by simpa using hf
  clear hf
  go_enter Tryd.func33, Tryd.ntmps33
  go_wp2
  exact ⟨rfl, rfl, rfl⟩
theorem caught_nil (b : Nat) (w : World) : Calls Tryd.prog 16 #[.pointer (some ⟨b, 0, none⟩), .nilIface] w fun e w' => e = .returned (.tuple #[]) ∧ w = w' := by
  go_enter Tryd.func16, Tryd.ntmps16
  go_wp2
  go_end0
  exact ⟨rfl, rfl⟩
set_option maxRecDepth 100000 in
theorem caught_some (b : Nat) (f y : Int) (w : World) (hc : w.cell? ⟨b, 0, none⟩ = some (.int .i64 y)) (hz : w.frozen? ⟨b, 0, none⟩ = false) :
    Calls Tryd.prog 16 #[.pointer (some ⟨b, 0, none⟩), thrownV f] w fun e w' => e = .returned (.tuple #[]) ∧ (w.setCell ⟨b, 0, none⟩ (.int .i64 f)).alloc (.cells #[.int .i64 f] 79) = w' := by
  unfold thrownV
  have hq : ∀ w' : World, (binOp .eql 20 (.iface 79 (.agg #[.int .i64 f])) .nilIface).run Tryd.prog w' = .ok (.bool false) w' := fun _ => by kernel_rfl
  have hta : ∀ w' : World, (Instr.typeAssert (.iface 79 (.agg #[.int .i64 f])) 20 79 true).run Tryd.prog w' = .ok (.tuple #[.agg #[.int .i64 f], .bool true]) w' := fun _ => by kernel_rfl
  have hb : b < w.heap.size := by
    rcases Nat.lt_or_ge b w.heap.size with h' | h'
    · exact h'
    · simp [World.cell?, Array.getElem?_eq_none h'] at hc
  go_enter Tryd.func16, Tryd.ntmps16
  go_wp2
  go_end0
  exact ⟨rfl, rfl⟩

/-- The deferred closure of Bytes, behind a panic and without one. -/
theorem bytes1_panicking (b : Nat) (f y : Int) (older : List PanicEntry) (w : World) (hc : w.cell? ⟨b, 0, none⟩ = some (.int .i64 y)) (hz : w.frozen? ⟨b, 0, none⟩ = false) :
    CallsD Tryd.prog 15 #[.pointer (some ⟨b, 0, none⟩)] (.panicking ({ v := thrownV f, recovered := false } :: older)) w fun e u' w' =>
      e = .returned (.tuple #[]) ∧ u' = .panicking ({ v := thrownV f, recovered := true } :: older) ∧ (w.setCell ⟨b, 0, none⟩ (.int .i64 f)).alloc (.cells #[.int .i64 f] 79) = w' := by
  refine callsD_of_wpS Tryd.func15 rfl fun c₀ cs hu => ?_
  have HC := Lib.hid (caught_some b f y w hc hz)
  apply wpS_region
  simp [wpOpsS, go_sem, recoverD, hu, Tryd.ntmps15, Exit.thenS]
  refine HC.out.mono ?_
  rintro e w' ⟨rfl, rfl⟩
  simp [wpOpsS, go_sem, bodyPostS, results, Tryd.results15]
theorem bytes1_idle (b : Nat) (w : World) :
    CallsD Tryd.prog 15 #[.pointer (some ⟨b, 0, none⟩)] .returning w fun e u' w' => e = .returned (.tuple #[]) ∧ u' = .returning ∧ w = w' := by
  refine callsD_of_wpS Tryd.func15 rfl fun c₀ cs hu => ?_
  have HC := Lib.hid (caught_nil b w)
  apply wpS_region
  simp [wpOpsS, go_sem, recoverD, hu, Tryd.ntmps15, Exit.thenS]
  refine HC.out.mono ?_
  rintro e w' ⟨rfl, rfl⟩
  cases c₀
  simp_all [wpOpsS, go_sem, bodyPostS, results, Tryd.results15]

/-- The deferred closure of Read. -/
theorem read1_panicking (b ob : Nat) (f y : Int) (hf : f ≠ 0) (v0 : Value) (older : List PanicEntry) (w : World) (hc : w.cell? ⟨b, 0, none⟩ = some (.int .i64 y)) (hz : w.frozen? ⟨b, 0, none⟩ = false)
    (ho : w.cell? ⟨ob, 0, none⟩ = some v0) (hoz : w.frozen? ⟨ob, 0, none⟩ = false) (hne : ob ≠ b) :
    CallsD Tryd.prog 29 #[.pointer (some ⟨b, 0, none⟩), .pointer (some ⟨ob, 0, none⟩)] (.panicking ({ v := thrownV f, recovered := false } :: older)) w fun e u' w' =>
      e = .returned (.tuple #[]) ∧ u' = .panicking ({ v := thrownV f, recovered := true } :: older) ∧ ((w.setCell ⟨b, 0, none⟩ (.int .i64 f)).alloc (.cells #[.int .i64 f] 79)).setCell ⟨ob, 0, none⟩ (.slice none 0 0) = w' := by
  refine callsD_of_wpS Tryd.func29 rfl fun c₀ cs hu => ?_
  have HC := Lib.hid (caught_some b f y w hc hz)
  have he2 : (f == 0) = false := by simpa using hf
  have he3 : (f != 0) = true := by simpa using hf
  apply wpS_seq
  apply wpS_region
  simp [wpOpsS, go_sem, recoverD, hu, Tryd.ntmps29, Exit.thenS]
  refine HC.out.mono ?_
  rintro e w' ⟨rfl, rfl⟩
  simp only [wpOpsS, Exit.thenS]
  apply wpS_of_wp
  have HU := Lib.hid hu
  have hbW : b < w.heap.size := by
    rcases Nat.lt_or_ge b w.heap.size with h' | h'
    · exact h'
    · simp [World.cell?, Array.getElem?_eq_none h'] at hc
  have hoW : ob < w.heap.size := by
    rcases Nat.lt_or_ge ob w.heap.size with h' | h'
    · exact h'
    · simp [World.cell?, Array.getElem?_eq_none h'] at ho
  have k0 : ((w.setCell ⟨b, 0, none⟩ (.int .i64 f)).alloc (.cells #[.int .i64 f] 79)).cell? ⟨b, 0, none⟩ = some (.int .i64 f) := by
    rw [cell_below_iff ((Below.refl _ _).alloc (Nat.le_refl _) _) (by simpa using hbW) 0]
    exact World.cell?_setCell_same _ _ _ hc
  have k1 : ((w.setCell ⟨b, 0, none⟩ (.int .i64 f)).alloc (.cells #[.int .i64 f] 79)).cell? ⟨ob, 0, none⟩ = some v0 := by
    rw [cell_below_iff ((Below.refl _ _).alloc (Nat.le_refl _) _) (by simpa using hoW) 0]
    have := World.cell?_of_block (a := ⟨ob, 0, none⟩) (heap_set_ne (w := w) (p := ⟨b, 0, none⟩) (v := .int .i64 f) (k := ob) hne)
    rw [this]; exact ho
  have k2 : ((w.setCell ⟨b, 0, none⟩ (.int .i64 f)).alloc (.cells #[.int .i64 f] 79)).frozen? ⟨ob, 0, none⟩ = false := by
    rw [World.frozen?_of_block (a := ⟨ob, 0, none⟩) (w := w)]
    · exact hoz
    · exact (Below.heap_alloc _ _ _ (by simpa using hoW)).trans (heap_set_ne hne)
  obtain ⟨W, hW⟩ : ∃ W, (w.setCell ⟨b, 0, none⟩ (.int .i64 f)).alloc (.cells #[.int .i64 f] 79) = W := ⟨_, rfl⟩
  have HWW := Lib.hid hW
  rw [hW] at k0 k1 k2 ⊢
  clear hu hf hW hc hz ho hoz HC
  simp only [Array.replicate_succ, Array.replicate_zero, List.push_toArray, List.append_toArray, List.nil_append, List.cons_append, List.setIfInBounds_toArray, List.set_cons_zero, List.set_cons_succ]
  go_wp2
  simp [bodyPostS, results, Tryd.results29]
  all_goals rw [HWW.out]
theorem read1_idle (b ob : Nat) (w : World) (hc : w.cell? ⟨b, 0, none⟩ = some (.int .i64 0)) :
    CallsD Tryd.prog 29 #[.pointer (some ⟨b, 0, none⟩), .pointer (some ⟨ob, 0, none⟩)] .returning w fun e u' w' => e = .returned (.tuple #[]) ∧ u' = .returning ∧ w = w' := by
  refine callsD_of_wpS Tryd.func29 rfl fun c₀ cs hu => ?_
  have HC := Lib.hid (caught_nil b w)
  apply wpS_seq
  apply wpS_region
  simp [wpOpsS, go_sem, recoverD, hu, Tryd.ntmps29, Exit.thenS]
  refine HC.out.mono ?_
  rintro e w' ⟨rfl, rfl⟩
  simp only [wpOpsS, Exit.thenS]
  apply wpS_of_wp
  have HU := Lib.hid hu
  clear hu HC
  simp only [Array.replicate_succ, Array.replicate_zero, List.push_toArray, List.append_toArray, List.nil_append, List.cons_append, List.setIfInBounds_toArray, List.set_cons_zero, List.set_cons_succ]
  go_wp2
  have hu := HU.out
  cases c₀
  simp_all [bodyPostS, results, Tryd.results29]
end Go.Proofs.YtjmfdacnaodfdaaDoor

namespace Go.Proofs.YtjmfdacnaodfdaaDoor
set_option linter.unusedVariables false
set_option linter.unusedSimpArgs false
open Go.RowKit

theorem Wr.num_ok (r : Wr) (h : r.e = 0) (n : Int) (h0 : 0 ≤ n ∧ n ≤ 1073741824) : (r.num n).e = 0 := by
  unfold Wr.num Wr.put
  rw [if_neg (by simpa using h), if_pos (by simpa using h0)]
theorem Wr.txt_ok (r : Wr) (h : r.e = 0) (t : List UInt8) (h0 : t.length ≤ 65536) : (r.txt t).e = 0 := by
  unfold Wr.txt Wr.put
  rw [if_neg (by simpa using h), if_pos (by simpa using h0)]
theorem Wr.body_ok (r : Wr) (h : r.e = 0) (x : OpR) (hc : checkM x = 0) : (r.body x).e = 0 := by
  obtain ⟨h1, h2, h3, h4, h5, _⟩ := check_zero' x hc
  have e0 := r.num_ok h x.k (by omega)
  have e1 := (r.num x.k).num_ok e0 x.p (by omega)
  have hn : ∀ i, i ≤ 3 → 0 ≤ x.numA (2 + i) ∧ x.numA (2 + i) ≤ 1073741824 := by
    intro i hi
    rcases (show i = 0 ∨ i = 1 ∨ i = 2 ∨ i = 3 by omega) with rfl | rfl | rfl | rfl
    · exact ⟨h2.2.2.1, Int.le_trans h2.2.2.2 (by omega)⟩
    · exact ⟨h3.1, h3.2.1⟩
    · exact ⟨h3.2.2.1, h3.2.2.2.1⟩
    · exact ⟨h3.2.2.2.2.1, h3.2.2.2.2.2⟩
  have e2 : ∀ i, i ≤ 4 → (((r.num x.k).num x.p).nums x x.k.toNat i).e = 0 := by
    intro i
    induction i with
    | zero => intro _; exact e1
    | succ i ih =>
      intro hi
      unfold Wr.nums
      split
      · exact Wr.num_ok _ (ih (by omega)) _ (hn i (by omega))
      · exact ih (by omega)
  have ht : ∀ i, (x.textA i).length ≤ 65536 := by
    intro i
    unfold OpR.textA
    split <;> simp <;> omega
  have e3 : ∀ i, ((((r.num x.k).num x.p).nums x x.k.toNat 4).txts x x.k.toNat i).e = 0 := by
    intro i
    induction i with
    | zero => exact e2 4 (Nat.le_refl _)
    | succ i ih =>
      unfold Wr.txts
      split
      · exact Wr.txt_ok _ ih _ (ht _)
      · exact ih
  exact e3 2
theorem bytes1_ok (x : OpR) (hc : checkM x = 0) : (bytesW [x]).e = 0 := by
  unfold bytesW
  simp only [List.foldl_cons, List.foldl_nil, Wr.op, if_pos hc]
  exact Wr.body_ok _ (Wr.num_ok _ rfl _ (by simp)) x hc
theorem bytes1_len (x : OpR) : (bytesW [x]).out.length ≤ 700 := by
  have h1 := fold_len [x] (Wr.num ⟨[], 0⟩ (1 : Int))
  have h2 := Wr.num_len ⟨[], 0⟩ (1 : Int)
  have h3 : (bytesW [x]).l.length ≤ 700 := by
    unfold bytesW
    simp only [List.length_cons, List.length_nil] at h1 h2 ⊢
    simp only [Nat.zero_add] at h1 h2 ⊢
    have e : ((1 : Nat) : Int) = 1 := rfl
    rw [e]
    omega
  unfold Wr.out
  split
  · exact h3
  · simp
/-- An event behind what was put. -/
def Wr.ev (r : Wr) (x : EvR) : Wr := ((((r.num x.at_).num x.err).txt (bytesW [x.op]).out).num x.dp).num x.dc
theorem Wr.ev_len (r : Wr) (x : EvR) : (r.ev x).l.length ≤ r.l.length + 730 := by
  unfold Wr.ev
  have h1 := Wr.num_len r x.at_
  have h2 := Wr.num_len (r.num x.at_) x.err
  have h3 := Wr.txt_len ((r.num x.at_).num x.err) (bytesW [x.op]).out
  have h4 := Wr.num_len (((r.num x.at_).num x.err).txt (bytesW [x.op]).out) x.dp
  have h5 := Wr.num_len ((((r.num x.at_).num x.err).txt (bytesW [x.op]).out).num x.dp) x.dc
  have h6 := bytes1_len x.op
  omega

/-- Where a put of an event stands. -/
structure TPutS (b xb : Nat) (w0 : World) (x : EvR) (r : Wr) (w : World) : Prop where
  wr : CwAt b r w
  kept : KeptW b w0 w
  box : EvBox w xb x
  flds : Flds w
theorem TPutS.num {b xb : Nat} {w0 : World} {x : EvR} {r : Wr} {w : World} (h : TPutS b xb w0 x r w) (h0 : 0 < b) (hx : xb ≠ b) (hl : r.l.length ≤ 1000000) (n : Int) :
    Calls Tryd.prog 17 #[.pointer (some ⟨b, 0, none⟩), .int .i64 n] w fun v w' => v = .returned (.tuple #[]) ∧ TPutS b xb w0 x (r.num n) w' :=
  (cwnum_any b r n hl w h.wr).mono fun v w' ⟨e, h1, h2⟩ => ⟨e, h1, h.kept.trans h2, h.box.keptW h2 hx, h.flds.of_block (h2.below.block 0 h0)⟩
theorem TPutS.txt {b xb : Nat} {w0 : World} {x : EvR} {r : Wr} {w : World} (h : TPutS b xb w0 x r w) (h0 : 0 < b) (hx : xb ≠ b) (t : List UInt8) (hl : r.l.length + t.length ≤ 1000000) :
    Calls Tryd.prog 43 #[.pointer (some ⟨b, 0, none⟩), .string (bs t)] w fun v w' => v = .returned (.tuple #[]) ∧ TPutS b xb w0 x (r.txt t) w' :=
  (cwtxt_any b r t hl w h.wr).mono fun v w' ⟨e, h1, h2⟩ => ⟨e, h1, h.kept.trans h2, h.box.keptW h2 hx, h.flds.of_block (h2.below.block 0 h0)⟩
theorem TPutS.below {b xb : Nat} {w0 : World} {x : EvR} {r : Wr} {w w' : World} (h : TPutS b xb w0 x r w) (hb : Below w.heap.size w w') : TPutS b xb w0 x r w' :=
  ⟨h.wr.below hb, h.kept.trans (KeptW.of_below hb (Nat.le_of_lt h.wr.lt)), h.box.below hb, h.flds.below hb⟩
theorem opsAt_one {w : World} {g : Nat} {x : OpR} (h : OpBox w g x) : OpsAt w (some ⟨g, 0, none⟩) [x] := by
  intro i hi
  obtain rfl : i = 0 := by simpa using hi
  obtain ⟨c0, c1, c2, c3, c4, c5, c6, c7⟩ := h.cells
  refine ⟨_, rfl, ?_⟩
  rw [Nat.zero_mul, show (⟨g, 0, none⟩ : Addr).add 0 = ⟨g, 0, none⟩ from rfl]
  exact ⟨c0, c1, c2, c3, c4, c5, c6, c7⟩

def TPutPost (b : Nat) (r : Wr) (x : EvR) (w : World) (v : Ending) (w' : World) : Prop :=
  (evM x = 0 → v = .returned (.tuple #[]) ∧ CwAt b (r.ev x) w' ∧ KeptW b w w') ∧ (evM x ≠ 0 → v = .panicked [{ v := thrownV (evM x), recovered := false }] ∧ KeptW b w w')
set_option maxHeartbeats 8000000 in
set_option maxRecDepth 100000 in
theorem tput_any (b : Nat) (r : Wr) (x : EvR) (hl : r.l.length ≤ 500000) (hb0 : 0 < b) (w : World) (hd : Flds w) (h : CwAt b r w) :
    Calls Tryd.prog 18 #[.pointer (some ⟨b, 0, none⟩), .agg x.cells] w (TPutPost b r x w) := by
  have hlt := h.lt
  obtain ⟨w1, hw1⟩ : ∃ W, w.alloc (.cells x.cells 34) = W := ⟨_, rfl⟩
  have hb1 : Below w.heap.size w w1 := by rw [← hw1]; exact (Below.refl _ _).alloc (Nat.le_refl _) _
  have hbox : EvBox w1 w.heap.size x := by rw [← hw1]; exact World.alloc_heap_new _ _
  have HS : Hid (TPutS b w.heap.size w x r w1) := Lib.hid ⟨h.below hb1, KeptW.of_below hb1 (Nat.le_of_lt hlt), hbox, hd.below hb1⟩
  have HC := Lib.hid (tcheck_any x w1 (hd.below hb1))
  have hne : w.heap.size ≠ b := by omega
  have HNE := Lib.hid hne
  have HL := Lib.hid hl
  obtain ⟨E, hE⟩ : ∃ E, evM x = E := ⟨_, rfl⟩
  have HEV := Lib.hid hE
  rw [hE] at HC
  have hop : E = 0 → checkM x.op = 0 := by
    intro h0
    rw [← hE] at h0
    unfold evM at h0
    split at h0
    · omega
    split at h0
    · omega
    split at h0
    · omega
    split at h0
    · omega
    split at h0
    · rename_i h1; exact absurd h0 h1
    · rename_i h1; simpa using h1
  have HOP := Lib.hid hop
  obtain ⟨at_, ⟨k, p, t, n, a, m, u, v⟩, er, dp, dc⟩ := x
  obtain ⟨c0, c1, c2, c3, c4, c5, c6, c7, c8, c9, c10, c11⟩ := hbox.cells
  simp only at c0 c1 c2 c3 c4 c5 c6 c7 c8 c9 c10 c11
  simp only [EvR.cells] at hw1 HC ⊢
  clear hb1 hbox h hd hne hl hE hop
  by_cases h0 : E = 0
  · subst h0
    have hck := HOP.out rfl
    simp only at hck
    have HB1 := Lib.hid (bytes1_ok _ hck)
    have HBL := Lib.hid (bytes1_len ⟨k, p, t, n, a, m, u, v⟩)
    obtain ⟨T, hT⟩ : ∃ T, (bytesW [(⟨k, p, t, n, a, m, u, v⟩ : OpR)]).out = T := ⟨_, rfl⟩
    have HT := Lib.hid hT
    rw [hT] at HBL
    obtain ⟨TS, hTS⟩ : ∃ TS, bs T = TS := ⟨_, rfl⟩
    have HTS := Lib.hid hTS
    have HBY : Hid (∀ w' w'' g, Flds w' → Below w'.heap.size w' w'' → OpBox w'' g ⟨k, p, t, n, a, m, u, v⟩ → Calls Tryd.prog 42 #[.slice (some ⟨g, 0, none⟩) 1 1] w'' fun e w3 => e = .returned (.tuple #[.string TS, .int .i64 0]) ∧ Below w'.heap.size w' w3) := Lib.hid fun w' w'' g hd hb hg => by
      have h1 := obytes_any (some ⟨g, 0, none⟩) 1 [⟨k, p, t, n, a, m, u, v⟩] (by simp) w'' (hd.below hb) (opsAt_one hg) (Nat.lt_of_le_of_lt (Nat.zero_le _) hg.lt)
      rw [HB1.out, hT, hTS] at h1
      exact h1.mono fun e w3 h => ⟨h.1, hb.trans (h.2.mono hb.size)⟩
    clear hck hT hTS
    go_enter Tryd.func18, Tryd.ntmps18
    go_wp2_with fail
    refine HC.out.mono ?_
    rintro e w2 ⟨rfl, hb2⟩
    have HS2 := Lib.hid (HS.out.below hb2)
    obtain ⟨d0, d1, d2, d3, d4, d5, d6, d7, d8, d9, d10, d11⟩ := HS2.out.box.cells
    simp only at d0 d1 d2 d3 d4 d5 d6 d7 d8 d9 d10 d11
    clear hb2 c0 c1 c2 c3 c4 c5 c6 c7 c8 c9 c10 c11 hw1
    go_wp2_with fail
    refine (need_ok w2).mono ?_
    rintro e w' ⟨rfl, rfl⟩
    go_wp2_with fail
    refine (HBY.out w2 _ _ HS2.out.flds ((Below.refl _ _).alloc (Nat.le_refl _) _) (World.alloc_heap_new _ _)).mono ?_
    rintro e w3 ⟨rfl, hb3⟩
    have HS3 := Lib.hid (HS2.out.below hb3)
    obtain ⟨c0, c1, c2, c3, c4, c5, c6, c7, c8, c9, c10, c11⟩ := HS3.out.box.cells
    simp only at c0 c1 c2 c3 c4 c5 c6 c7 c8 c9 c10 c11
    clear hb3 d0 d1 d2 d3 d4 d5 d6 d7 d8 d9 d10 d11
    go_wp2_with fail
    refine (need_ok w3).mono ?_
    rintro e w' ⟨rfl, rfl⟩
    go_wp2_with fail
    refine (HS3.out.num hb0 HNE.out (by have := HL.out; omega) at_).mono ?_
    rintro e w4 ⟨rfl, hs4⟩
    have HS4 := Lib.hid hs4
    obtain ⟨d0, d1, d2, d3, d4, d5, d6, d7, d8, d9, d10, d11⟩ := HS4.out.box.cells
    simp only at d0 d1 d2 d3 d4 d5 d6 d7 d8 d9 d10 d11
    clear hs4 c0 c1 c2 c3 c4 c5 c6 c7 c8 c9 c10 c11
    go_wp2_with fail
    refine (HS4.out.num hb0 HNE.out (by have := HL.out; have := r.num_len at_; omega) er).mono ?_
    rintro e w5 ⟨rfl, hs5⟩
    have HS5 := Lib.hid hs5
    obtain ⟨c0, c1, c2, c3, c4, c5, c6, c7, c8, c9, c10, c11⟩ := HS5.out.box.cells
    simp only at c0 c1 c2 c3 c4 c5 c6 c7 c8 c9 c10 c11
    clear hs5 d0 d1 d2 d3 d4 d5 d6 d7 d8 d9 d10 d11
    go_wp2_with fail
    rw [← HTS.out]
    refine (HS5.out.txt hb0 HNE.out T (by have := HL.out; have := r.num_len at_; have := (r.num at_).num_len er; have := HBL.out; omega)).mono ?_
    rintro e w6 ⟨rfl, hs6⟩
    rw [HTS.out]
    have HS6 := Lib.hid hs6
    obtain ⟨d0, d1, d2, d3, d4, d5, d6, d7, d8, d9, d10, d11⟩ := HS6.out.box.cells
    simp only at d0 d1 d2 d3 d4 d5 d6 d7 d8 d9 d10 d11
    clear hs6 c0 c1 c2 c3 c4 c5 c6 c7 c8 c9 c10 c11
    have HL6 : Hid ((((r.num at_).num er).txt T).l.length ≤ 600000) := Lib.hid (by have := HL.out; have := r.num_len at_; have := (r.num at_).num_len er; have := ((r.num at_).num er).txt_len T; have := HBL.out; omega)
    go_wp2_with fail
    refine (HS6.out.num hb0 HNE.out (by have := HL6.out; omega) dp).mono ?_
    rintro e w7 ⟨rfl, hs7⟩
    have HS7 := Lib.hid hs7
    obtain ⟨c0, c1, c2, c3, c4, c5, c6, c7, c8, c9, c10, c11⟩ := HS7.out.box.cells
    simp only at c0 c1 c2 c3 c4 c5 c6 c7 c8 c9 c10 c11
    clear hs7 d0 d1 d2 d3 d4 d5 d6 d7 d8 d9 d10 d11
    go_wp2_with fail
    refine (HS7.out.num hb0 HNE.out (by have := HL6.out; have := (((r.num at_).num er).txt T).num_len dp; omega) dc).mono ?_
    rintro e w8 ⟨rfl, hs8⟩
    have HS8 := Lib.hid hs8
    clear hs8 c0 c1 c2 c3 c4 c5 c6 c7 c8 c9 c10 c11
    go_wp2_with fail
    go_end0
    refine ⟨fun _ => ⟨rfl, ?_, HS8.out.kept⟩, fun h => absurd HEV.out h⟩
    unfold Wr.ev
    simp only
    rw [HT.out]
    exact HS8.out.wr
  · have HE0 := Lib.hid h0
    go_enter Tryd.func18, Tryd.ntmps18
    go_wp2_with fail
    refine HC.out.mono ?_
    rintro e w2 ⟨rfl, hb2⟩
    have HS2 := Lib.hid (HS.out.below hb2)
    clear hb2 c0 c1 c2 c3 c4 c5 c6 c7 c8 c9 c10 c11 hw1
    go_wp2_with fail
    refine (need_bad E h0 w2).mono ?_
    rintro e w' ⟨rfl, rfl⟩
    go_wp2_with fail
    refine ⟨rfl, fun h => absurd (HEV.out.symm.trans h) HE0.out, fun _ => ⟨by rw [HEV.out], HS2.out.kept⟩⟩
end Go.Proofs.YtjmfdacnaodfdaaDoor

namespace Go.Proofs.YtjmfdacnaodfdaaDoor
set_option linter.unusedVariables false
set_option linter.unusedSimpArgs false
open Go.RowKit

def Cell12 (w : World) (a : Addr) (x : EvR) : Prop := w.cell? a = some (.int .i64 x.at_) ∧ w.cell? ⟨a.block, a.off + 1, none⟩ = some (.int .i64 x.op.k) ∧ w.cell? ⟨a.block, a.off + 2, none⟩ = some (.int .i64 x.op.p) ∧ w.cell? ⟨a.block, a.off + 3, none⟩ = some (.int .i64 x.op.t) ∧
  w.cell? ⟨a.block, a.off + 4, none⟩ = some (.int .i64 x.op.n) ∧ w.cell? ⟨a.block, a.off + 5, none⟩ = some (.int .i64 x.op.a) ∧ w.cell? ⟨a.block, a.off + 6, none⟩ = some (.int .i64 x.op.m) ∧ w.cell? ⟨a.block, a.off + 7, none⟩ = some (.string x.op.u) ∧ w.cell? ⟨a.block, a.off + 8, none⟩ = some (.string x.op.v) ∧
  w.cell? ⟨a.block, a.off + 9, none⟩ = some (.int .i64 x.err) ∧ w.cell? ⟨a.block, a.off + 10, none⟩ = some (.int .i64 x.dp) ∧ w.cell? ⟨a.block, a.off + 11, none⟩ = some (.int .i64 x.dc)
def EvsAt (w : World) (A : Option Addr) (l : List EvR) : Prop := ∀ i (hi : i < l.length), ∃ a, A = some a ∧ Cell12 w (a.add (i * 12)) l[i]
theorem Cell12.below {w w' : World} {a : Addr} {x : EvR} (h : Cell12 w a x) (hb : Below w.heap.size w w') : Cell12 w' a x := by
  obtain ⟨h0, h1, h2, h3, h4, h5, h6, h7, h8, h9, h10, h11⟩ := h
  exact ⟨cell_below hb h0, cell_below hb h1, cell_below hb h2, cell_below hb h3, cell_below hb h4, cell_below hb h5, cell_below hb h6, cell_below hb h7, cell_below hb h8, cell_below hb h9, cell_below hb h10, cell_below hb h11⟩
theorem EvsAt.below {w w' : World} {A : Option Addr} {l : List EvR} (h : EvsAt w A l) (hb : Below w.heap.size w w') : EvsAt w' A l := fun i hi => by
  obtain ⟨a, e, h⟩ := h i hi
  exact ⟨a, e, h.below hb⟩

def stepT (r : Wr) (x : EvR) : Wr := (r.fail (evM x)).ev x
def traceW (l : List EvR) : Wr := l.foldl stepT (Wr.num ⟨[], 0⟩ l.length)
/-- Events as bytes. -/
def traceB (l : List EvR) : List UInt8 × Int := if 400 < l.length then ([], 2) else ((traceW l).out, (traceW l).e)
theorem ev_stop (r : Wr) (h : r.e ≠ 0) (x : EvR) : r.ev x = r := by unfold Wr.ev; simp only [Wr.num_stop _ h, Wr.txt_stop _ h]
theorem stepT_stop (r : Wr) (h : r.e ≠ 0) (x : EvR) : stepT r x = r := by
  unfold stepT
  rw [show r.fail (evM x) = r by unfold Wr.fail; rw [if_neg h], ev_stop r h]
theorem foldT_stop (l : List EvR) (r : Wr) (h : r.e ≠ 0) : l.foldl stepT r = r := by
  induction l with
  | nil => rfl
  | cons x l ih => rw [List.foldl_cons, stepT_stop r h, ih]
theorem stepT_zero (r : Wr) (x : EvR) (h : evM x = 0) : stepT r x = r.ev x := by unfold stepT; rw [h, Wr.fail_zero]
theorem stepT_bad (r : Wr) (x : EvR) (hr : r.e = 0) (h : evM x ≠ 0) : (stepT r x).e = evM x := by
  unfold stepT
  have h1 : r.fail (evM x) = ⟨r.l, evM x⟩ := by unfold Wr.fail; rw [if_pos hr]
  rw [h1, ev_stop _ h]
theorem evM_zero (x : EvR) (h : evM x = 0) : (0 ≤ x.at_ ∧ x.at_ ≤ 399) ∧ (0 ≤ x.err ∧ x.err ≤ 16) ∧ checkM x.op = 0 ∧ (x.dp = 0 ∧ x.dc = 0 ∨ x.err = 0 ∧ (0 ≤ x.dp ∧ x.dp ≤ 63) ∧ 1 ≤ x.dc ∧ x.dc ≤ 1048576) := by
  unfold evM at h
  split at h
  · omega
  split at h
  · omega
  split at h
  · omega
  split at h
  · omega
  split at h
  · rename_i h1; exact absurd h h1
  · rename_i h1
    refine ⟨by omega, by omega, by simpa using h1, ?_⟩
    split at h
    · left; assumption
    · split at h
      · omega
      · rename_i h2
        right
        refine ⟨by simpa using h2, ?_⟩
        unfold dotM at h
        split at h
        · omega
        split at h
        · omega
        split at h
        · omega
        split at h
        · omega
        omega
theorem ev_ok (r : Wr) (hr : r.e = 0) (x : EvR) (h : evM x = 0) : (r.ev x).e = 0 := by
  obtain ⟨h1, h2, h3, h4⟩ := evM_zero x h
  have := bytes1_len x.op
  unfold Wr.ev
  exact Wr.num_ok _ (Wr.num_ok _ (Wr.txt_ok _ (Wr.num_ok _ (Wr.num_ok _ hr _ (by omega)) _ (by omega)) _ (by omega)) _ (by omega)) _ (by omega)
theorem foldT_len (l : List EvR) : ∀ r : Wr, (l.foldl stepT r).l.length ≤ r.l.length + 730 * l.length := by
  induction l with
  | nil => intro r; simp
  | cons x l ih =>
    intro r
    have h1 := ih (stepT r x)
    have h2 := Wr.ev_len (r.fail (evM x)) x
    rw [Wr.fail_len] at h2
    rw [show (r.fail (evM x)).ev x = stepT r x from rfl] at h2
    simp only [List.foldl_cons, List.length_cons]
    omega
theorem Wr.ev_grows (r : Wr) (x : EvR) : ∃ t, (r.ev x).l = r.l ++ t := by
  unfold Wr.ev
  obtain ⟨a, ha⟩ := Wr.num_grows r x.at_
  obtain ⟨c, hc⟩ := Wr.num_grows (r.num x.at_) x.err
  obtain ⟨d, hd⟩ := Wr.txt_grows ((r.num x.at_).num x.err) (bytesW [x.op]).out
  obtain ⟨e, he⟩ := Wr.num_grows (((r.num x.at_).num x.err).txt (bytesW [x.op]).out) x.dp
  obtain ⟨f, hf⟩ := Wr.num_grows ((((r.num x.at_).num x.err).txt (bytesW [x.op]).out).num x.dp) x.dc
  exact ⟨a ++ (c ++ (d ++ (e ++ f))), by rw [hf, he, hd, hc, ha]; simp⟩
theorem foldT_grows (l : List EvR) : ∀ r : Wr, ∃ t, (l.foldl stepT r).l = r.l ++ t := by
  induction l with
  | nil => intro r; exact ⟨[], by simp⟩
  | cons x l ih =>
    intro r
    obtain ⟨a, ha⟩ := ih (stepT r x)
    obtain ⟨c, hc⟩ := (r.fail (evM x)).ev_grows x
    have hl : (r.fail (evM x)).l = r.l := by unfold Wr.fail; split <;> rfl
    exact ⟨c ++ a, by rw [List.foldl_cons, ha]; unfold stepT; rw [hc, hl]; simp⟩
theorem traceW_ne (l : List EvR) (h : l.length ≤ 400) : (traceW l).l ≠ [] := by
  obtain ⟨t, ht⟩ := foldT_grows l (Wr.num ⟨[], 0⟩ l.length)
  unfold traceW
  rw [ht]
  have := num_ne (l.length : Int) (by omega)
  intro e
  exact this (List.append_eq_nil_iff.1 e).1

def BytesTPost (l : List EvR) (w : World) (e : Ending) (w' : World) : Prop := e = .returned (.tuple #[.string (bs (traceB l).1), .int .i64 (traceB l).2]) ∧ Below w.heap.size w w'

set_option maxHeartbeats 8000000 in
set_option maxRecDepth 100000 in
theorem tbytes_any (A : Option Addr) (c : Nat) (l : List EvR) (hl : l.length ≤ 1000000) (w : World) (hd : Flds w) (ha : EvsAt w A l) :
    Calls Tryd.prog 8 #[.slice A l.length c] w (BytesTPost l w) := by
  have hmf : ∀ (fn : Fn) (first cap : Array Value) (w : World), (Instr.makeFunc fn first cap).run Tryd.prog w = .ok (.func fn first cap) w := fun _ _ _ _ => rfl
  obtain ⟨N, hN⟩ : ∃ N, l.length = N := ⟨_, rfl⟩
  have HNN := Lib.hid hN
  obtain ⟨R, hR⟩ : ∃ R, traceB l = R := ⟨_, rfl⟩
  have HRR := Lib.hid hR
  by_cases h400 : 400 < N
  · have HR : Hid (R = ([], 2)) := Lib.hid (by rw [← hR]; unfold traceB; rw [if_pos (by omega)])
    have h400' : (400 : Int) < N := by omega
    rw [hN]
    clear hN ha hd hl hR h400
    go_enter_defers Tryd.func8, Tryd.ntmps8
    go_wp2
    refine leaves_cons (f := 15) (args := #[.pointer (some ⟨w.heap.size, 0, none⟩)]) (by simp) (by simp [go_sem]) ?_
    refine (bytes1_idle w.heap.size _).mono ?_
    rintro e u' w'' ⟨rfl, rfl, rfl⟩
    simp [Leaves, settle, results, Tryd.results8, go_sem]
    unfold BytesTPost
    rw [HRR.out, HR.out]
    exact ⟨rfl, (Below.refl _ _).alloc (Nat.le_refl _) _⟩
  · have HR : Hid (R = ((traceW l).out, (traceW l).e)) := Lib.hid (by rw [← hR]; unfold traceB; rw [if_neg (by omega)])
    have h400' : ¬ (400 : Int) < N := by omega
    obtain ⟨w1, hw1⟩ : ∃ W, w.alloc (.cells #[.int .i64 0] 25) = W := ⟨_, rfl⟩
    have hb1 : Below w.heap.size w w1 := by rw [← hw1]; exact (Below.refl _ _).alloc (Nat.le_refl _) _
    have hz1 : w1.heap.size = w.heap.size + 1 := by rw [← hw1]; simp
    have hE1 : w1.heap[w.heap.size]? = some (.cells #[.int .i64 0] 25 (0, 0)) := by rw [← hw1]; exact World.alloc_heap_new _ _
    obtain ⟨w2, hw2⟩ : ∃ W, w1.alloc (.cells #[.pointer none, .slice none 0 0, .int .i64 0] 48) = W := ⟨_, rfl⟩
    have hb2 : Below w1.heap.size w1 w2 := by rw [← hw2]; exact (Below.refl _ _).alloc (Nat.le_refl _) _
    have HW2 : Hid (CwAt w1.heap.size ⟨[], 0⟩ w2) := Lib.hid (by rw [← hw2]; exact cw_new w1)
    obtain ⟨B, hB⟩ : ∃ B, w1.heap.size = B := ⟨_, rfl⟩
    rw [hB] at HW2 hb2 hz1
    have HB1 := Lib.hid hb1
    have HB2 := Lib.hid hb2
    have HE1 := Lib.hid hE1
    have HZ : Hid (w1.heap.size = B ∧ B = w.heap.size + 1) := Lib.hid ⟨hB, hz1⟩
    have HD1 := Lib.hid (hd.below hb1)
    have HA := Lib.hid (ha.below hb1)
    have HNum := Lib.hid (cwnum_any B ⟨[], 0⟩ (N : Int) (by simp) w2 HW2.out)
    have HTW : Hid (traceW l = l.foldl stepT (Wr.num ⟨[], 0⟩ (N : Int))) := Lib.hid (by unfold traceW; rw [hN])
    have HTN : Hid ((traceW l).l ≠ []) := Lib.hid (traceW_ne l (by omega))
    have hN0 : 0 ≤ (N : Int) ∧ (N : Int) ≤ 1073741824 := by omega
    have HR00 := Lib.hid (Wr.num_ok ⟨[], 0⟩ rfl (N : Int) hN0)
    obtain ⟨R0, hR0⟩ : ∃ R0, Wr.num ⟨[], 0⟩ (N : Int) = R0 := ⟨_, rfl⟩
    have HR0L : Hid (R0.l.length ≤ 5) := Lib.hid (by rw [← hR0]; have := Wr.num_len ⟨[], 0⟩ (N : Int); simpa using this)
    rw [hR0] at HNum HTW HR00
    have hw1' : (w.alloc (.cells #[.int .i64 0] 25)).heap.size = B := by rw [hw1]; exact hB
    have hszB : w.heap.size + 1 = B := hz1.symm
    have HSB := Lib.hid hszB
    rw [hN]
    clear hN ha hd hl hR h400 hb1 hb2 hz1 hE1 hR0 hN0 hw1' hszB
    go_enter_defers Tryd.func8, Tryd.ntmps8
    go_wp2_with fail
    refine HNum.out.mono ?_
    rintro e w3 ⟨rfl, h1, h2⟩
    have HS3 : Hid (CwAt B R0 w3 ∧ Below B w1 w3) := Lib.hid ⟨h1, (HB2.out.mono (by have := HZ.out.1; omega)).trans h2.below⟩
    clear h1 h2 hw1 hw2
    go_wp2_with fail
    go_loopg [6, 19] N (fun g t6 t19 wr => ∃ k : Nat, Hid (g = N - k ∧ k ≤ N) ∧ t19 = .int .i64 k ∧ Hid (CwAt B ((l.take k).foldl stepT R0) wr ∧ Below B w1 wr ∧ ((l.take k).foldl stepT R0).e = 0))
    case atStart => exact ⟨0, ⟨rfl, Nat.zero_le _⟩, rfl, HS3.out.1, HS3.out.2, HR00.out⟩
    case round =>
      obtain ⟨k, HG, rfl, HQ⟩ := hrel
      have hk0 : (0 : Int) ≤ k := by omega
      have HBW : Hid (Below w1.heap.size w1 wr) := Lib.hid (by rw [HZ.out.1]; exact HQ.out.2.1)
      by_cases hlt : k < N
      · have hlt' : (k : Int) < N := by omega
        have hkl : k < l.length := by rw [HNN.out]; exact hlt
        obtain ⟨a, rfl, hca⟩ := HA.out k hkl
        obtain ⟨d0, d1, d2, d3, d4, d5, d6, d7, d8, d9, d10, d11⟩ := hca.below HBW.out
        obtain ⟨x, hx⟩ : ∃ x, l[k]'hkl = x := ⟨_, rfl⟩
        rw [hx] at d0 d1 d2 d3 d4 d5 d6 d7 d8 d9 d10 d11
        have HTK : Hid (stepT ((l.take k).foldl stepT R0) x = (l.take (k + 1)).foldl stepT R0) := Lib.hid (by rw [List.take_succ_eq_append_getElem hkl, List.foldl_append, hx]; rfl)
        have HDR : Hid (l.foldl stepT R0 = (l.drop (k + 1)).foldl stepT ((l.take (k + 1)).foldl stepT R0)) := Lib.hid (by rw [← List.foldl_append, List.take_append_drop])
        obtain ⟨Rk, hRk⟩ : ∃ Rk, (l.take k).foldl stepT R0 = Rk := ⟨_, rfl⟩
        have HRL : Hid (Rk.l.length ≤ 500000) := Lib.hid (by
          have h3 := foldT_len (l.take k) R0
          rw [hRk] at h3
          have h4 := HR0L.out
          have h5 : (l.take k).length ≤ 400 := by rw [List.length_take]; omega
          omega)
        rw [hRk] at HTK HQ
        have HPUT : Hid (∀ w', Below wr.heap.size wr w' → Calls Tryd.prog 18 #[.pointer (some ⟨B, 0, none⟩), .agg x.cells] w' (TPutPost B Rk x w')) := Lib.hid fun w' hb =>
          tput_any B Rk x HRL.out (by have := HSB.out; omega) w' ((HD1.out.below HBW.out).below hb) (HQ.out.1.below hb)
        have HBX : Hid (∀ w', Below wr.heap.size wr w' → Below B w1 w') := Lib.hid fun w' hb => HQ.out.2.1.trans (hb.mono HQ.out.2.1.size |>.mono (by have := HZ.out.1; have := HQ.out.2.1.size; omega))
        have HEV := Lib.hid (And.intro (stepT_zero Rk x) (stepT_bad Rk x HQ.out.2.2))
        have HOK := Lib.hid (fun h => ev_ok Rk HQ.out.2.2 x h)
        obtain ⟨at_, ⟨kk, p, t, n, aa, mm, u, v⟩, er, dp, dc⟩ := x
        by_cases hev : evM ⟨at_, ⟨kk, p, t, n, aa, mm, u, v⟩, er, dp, dc⟩ = 0
        · have HEV0 := Lib.hid hev
          simp only [EvR.cells] at HPUT
          clear hx hca hRk hev
          go_wp2_with fail
          refine (HPUT.out _ ((Below.refl _ _).alloc (Nat.le_refl _) _)).mono ?_
          rintro e w4 ⟨h1, _⟩
          obtain ⟨rfl, h2, h3⟩ := h1 HEV0.out
          have HQ4 : Hid (CwAt B (Rk.ev ⟨at_, ⟨kk, p, t, n, aa, mm, u, v⟩, er, dp, dc⟩) w4 ∧ Below B w1 w4) := Lib.hid ⟨h2, (HBX.out _ ((Below.refl _ _).alloc (Nat.le_refl _) _)).trans h3.below⟩
          clear h1 h2 h3
          go_wp2_with fail
          go_roundg (N - (k + 1))
          case rel => exact ⟨k + 1, ⟨rfl, hlt⟩, by go_num, by rw [← HTK.out, HEV.out.1 HEV0.out]; exact ⟨HQ4.out.1, HQ4.out.2, HOK.out HEV0.out⟩⟩
          case measure => have := HG.out; omega
        · have HEV0 := Lib.hid hev
          obtain ⟨E, hE⟩ : ∃ E, evM ⟨at_, ⟨kk, p, t, n, aa, mm, u, v⟩, er, dp, dc⟩ = E := ⟨_, rfl⟩
          have HE := Lib.hid hE
          have HFIN : Hid (R = ([], E)) := Lib.hid (by
            have h1 := HEV.out.2 HEV0.out
            rw [HTK.out] at h1
            have hne : ((l.take (k + 1)).foldl stepT R0).e ≠ 0 := by rw [h1]; exact HEV0.out
            have h2 : traceW l = (l.take (k + 1)).foldl stepT R0 := by rw [HTW.out, HDR.out, foldT_stop _ _ hne]
            rw [HR.out, h2, h1, hE]
            congr 1
            unfold Wr.out
            rw [if_neg hne])
          simp only [EvR.cells] at HPUT
          clear hx hca hRk hev hE
          go_wp2_with fail
          refine (HPUT.out _ ((Below.refl _ _).alloc (Nat.le_refl _) _)).mono ?_
          rintro e w4 ⟨_, h1⟩
          obtain ⟨rfl, h3⟩ := h1 HEV0.out
          rw [HE.out]
          have hbw : Below B w1 w4 := (HBX.out _ ((Below.refl _ _).alloc (Nat.le_refl _) _)).trans h3.below
          have hbw' : w4.heap[w.heap.size]? = some (.cells #[.int .i64 0] 25 (0, 0)) := by rw [hbw.block _ (by have := HSB.out; omega)]; exact HE1.out
          have HBW4 := Lib.hid hbw
          have hc4 : w4.cell? ⟨w.heap.size, 0, none⟩ = some (.int .i64 0) := by rw [Lib.cell_of_heap hbw']; rfl
          have hf4 : w4.frozen? ⟨w.heap.size, 0, none⟩ = false := Lib.frozen_of_heap hbw' 0
          clear h1 h3 hbw hbw'
          go_wp2_with fail
          refine leaves_cons (f := 15) (args := #[.pointer (some ⟨w.heap.size, 0, none⟩)]) (by simp) (by simp [go_sem]) ?_
          refine (bytes1_panicking w.heap.size E 0 [] w4 hc4 hf4).mono ?_
          rintro e u' w'' ⟨rfl, rfl, rfl⟩
          have hce : ((w4.setCell ⟨w.heap.size, 0, none⟩ (.int .i64 E)).alloc (.cells #[.int .i64 E] 79)).cell? ⟨w.heap.size, 0, none⟩ = some (.int .i64 E) := by
            rw [cell_below_iff ((Below.refl _ _).alloc (Nat.le_refl _) _) (by have := HBW4.out.size; have := HZ.out; simp; omega) 0]
            exact World.cell?_setCell_same _ _ _ hc4
          have HW4 : Hid (Below w.heap.size w ((w4.setCell ⟨w.heap.size, 0, none⟩ (.int .i64 E)).alloc (.cells #[.int .i64 E] 79))) := Lib.hid (by
            have h := HB1.out.trans (HBW4.out.mono (by have := HZ.out; omega))
            exact (h.setCell (p := ⟨w.heap.size, 0, none⟩) (Nat.le_refl _) _).alloc (by simpa using h.size) _)
          simp [Leaves, settle, results, Tryd.results8, go_sem, hce]
          unfold BytesTPost
          rw [HRR.out, HFIN.out]
          exact ⟨rfl, HW4.out⟩
      · have hlt' : ¬ (k : Int) < N := by omega
        have htk : l.take k = l := List.take_of_length_le (by rw [HNN.out]; omega)
        rw [htk] at HQ
        have HDONE := Lib.hid (cwdone_any B (l.foldl stepT R0) (fun _ => by rw [← HTW.out]; exact HTN.out) wr HQ.out.1)
        obtain ⟨Rk, hRk⟩ : ∃ Rk, l.foldl stepT R0 = Rk := ⟨_, rfl⟩
        have HFIN : Hid (R = (Rk.out, 0)) := Lib.hid (by rw [HR.out, HTW.out, hRk]; rw [hRk] at HQ; rw [HQ.out.2.2])
        have he0 := HQ.out.2.2
        rw [hRk] at HDONE he0
        rw [he0] at HDONE
        clear htk hRk he0
        go_wp2_with fail
        refine HDONE.out.mono ?_
        rintro e w4 ⟨rfl, hb4⟩
        have hbw : Below B w1 w4 := HQ.out.2.1.trans hb4
        have hbw' : w4.heap[w.heap.size]? = some (.cells #[.int .i64 0] 25 (0, 0)) := by rw [hbw.block _ (by have := HSB.out; have := HZ.out; omega)]; exact HE1.out
        have HBW4 := Lib.hid hbw
        have hc4 : w4.cell? ⟨w.heap.size, 0, none⟩ = some (.int .i64 0) := by rw [Lib.cell_of_heap hbw']; rfl
        have hf4 : w4.frozen? ⟨w.heap.size, 0, none⟩ = false := Lib.frozen_of_heap hbw' 0
        clear hb4 hbw hbw'
        go_wp2_with fail
        refine leaves_cons (f := 15) (args := #[.pointer (some ⟨w.heap.size, 0, none⟩)]) (by simp) (by simp [go_sem]) ?_
        refine (bytes1_idle w.heap.size _).mono ?_
        rintro e u' w'' ⟨rfl, rfl, rfl⟩
        have hce : (w4.setCell ⟨w.heap.size, 0, none⟩ (.int .i64 0)).cell? ⟨w.heap.size, 0, none⟩ = some (.int .i64 0) := World.cell?_setCell_same _ _ _ hc4
        have HW4 : Hid (Below w.heap.size w (w4.setCell ⟨w.heap.size, 0, none⟩ (.int .i64 0))) := Lib.hid (by
          have h := HB1.out.trans (HBW4.out.mono (by have := HZ.out; omega))
          exact h.setCell (p := ⟨w.heap.size, 0, none⟩) (Nat.le_refl _) _)
        simp [Leaves, settle, results, Tryd.results8, go_sem, hce]
        unfold BytesTPost
        rw [HRR.out, HFIN.out]
        exact ⟨rfl, HW4.out⟩
end Go.Proofs.YtjmfdacnaodfdaaDoor

namespace Go.Proofs.YtjmfdacnaodfdaaDoor
set_option linter.unusedVariables false
set_option linter.unusedSimpArgs false
open Go.RowKit

/-- Where the document's writing stands. -/
structure RTS (b : Nat) (w0 : World) (B : Nat) (r : Wr) (w : World) : Prop where
  wr : WrAt w b r
  below : Below w0.heap.size w0 w
  len : r.l.length ≤ B
theorem WrAt.lt {w : World} {b : Nat} {r : Wr} (h : WrAt w b r) : b < w.heap.size := by
  rcases Nat.lt_or_ge b w.heap.size with h' | h'
  · exact h'
  · unfold WrAt WAt at h; simp [Array.getElem?_eq_none h'] at h
theorem RTS.num {b B : Nat} {w0 : World} {r : Wr} {w : World} (h : RTS b w0 B r w) (hb : w0.heap.size ≤ b) (hl : B ≤ 1000000) (n : Int) :
    Calls Tryd.prog 20 #[.pointer (some ⟨b, 0, none⟩), .int .i64 n] w fun v w' => v = .returned (.tuple #[]) ∧ RTS b w0 (B + 5) (r.num n) w' :=
  (wnum_any' b r n (by have := h.len; omega) w h.wr).mono fun v w' ⟨e, h1, h2⟩ => ⟨e, h1, h.below.trans (h2.below hb h.below.size), by have := r.num_len n; have := h.len; omega⟩
theorem RTS.txt {b B : Nat} {w0 : World} {r : Wr} {w : World} (h : RTS b w0 B r w) (hb : w0.heap.size ≤ b) (hl : B ≤ 1000000) (t : List UInt8) (ht : t.length ≤ 700) :
    Calls Tryd.prog 23 #[.pointer (some ⟨b, 0, none⟩), .string (bs t)] w fun v w' => v = .returned (.tuple #[]) ∧ RTS b w0 (B + 705) (r.txt t) w' :=
  (wtxt_any' b r t (by have := h.len; omega) w h.wr).mono fun v w' ⟨e, h1, h2⟩ => ⟨e, h1, h.below.trans (h2.below hb h.below.size), by have := r.txt_len t; have := h.len; omega⟩
theorem RTS.fail {b B : Nat} {w0 : World} {r : Wr} {w : World} (h : RTS b w0 B r w) (hb : w0.heap.size ≤ b) (f : Int) :
    Calls Tryd.prog 21 #[.pointer (some ⟨b, 0, none⟩), .int .i64 f] w fun v w' => v = .returned (.tuple #[]) ∧ RTS b w0 B (r.fail f) w' :=
  (wfail_any' b r f w h.wr).mono fun v w' ⟨e, h1, h2⟩ => ⟨e, h1, h.below.trans (h2.below hb h.below.size), by rw [Wr.fail_len]; exact h.len⟩
theorem RTS.step {b B : Nat} {w0 : World} {r : Wr} {w w' : World} (h : RTS b w0 B r w) (hb : Below w.heap.size w w') : RTS b w0 B r w' :=
  ⟨h.wr.below hb, h.below.trans (hb.mono h.below.size), h.len⟩

set_option maxHeartbeats 8000000 in
set_option maxRecDepth 100000 in
theorem rbytes40_any (A : Option Addr) (c : Nat) (l : List EvR) (hl : l.length ≤ 1000000) (hsz : ∀ x ∈ l, x.op.u.size ≤ 100000 ∧ x.op.v.size ≤ 100000) (w : World) (hd : Flds w) (ha : EvsAt w A l) :
    Calls Tryd.prog 9 #[.slice A l.length c] w (BytesTPost l w) := by
  obtain ⟨N, hN⟩ : ∃ N, l.length = N := ⟨_, rfl⟩
  have HNN := Lib.hid hN
  obtain ⟨R, hR⟩ : ∃ R, traceB l = R := ⟨_, rfl⟩
  have HRR := Lib.hid hR
  by_cases h400 : 400 < N
  · have HR : Hid (R = ([], 2)) := Lib.hid (by rw [← hR]; unfold traceB; rw [if_pos (by omega)])
    have h400' : (400 : Int) < N := by omega
    rw [hN]
    clear hN ha hd hl hR h400 hsz
    go_enter Tryd.func9, Tryd.ntmps9
    go_wp2
    go_ret2
    unfold BytesTPost
    rw [HRR.out, HR.out]
    exact ⟨rfl, Below.refl _ _⟩
  · have HR : Hid (R = ((traceW l).out, (traceW l).e)) := Lib.hid (by rw [← hR]; unfold traceB; rw [if_neg (by omega)])
    have h400' : ¬ (400 : Int) < N := by omega
    obtain ⟨w1, hw1⟩ : ∃ W, w.alloc (.cells #[.string ⟨#[]⟩, .int .i64 0] 54) = W := ⟨_, rfl⟩
    have hb1 : Below w.heap.size w w1 := by rw [← hw1]; exact (Below.refl _ _).alloc (Nat.le_refl _) _
    have HR1 : Hid (RTS w.heap.size w 0 ⟨[], 0⟩ w1) := Lib.hid ⟨by rw [← hw1]; exact w_new w, hb1, Nat.le_refl _⟩
    have HNum := Lib.hid (HR1.out.num (Nat.le_refl _) (by omega) (N : Int))
    have HA := Lib.hid ha
    have HSZ := Lib.hid hsz
    have HD := Lib.hid hd
    have HTW : Hid (traceW l = l.foldl stepT (Wr.num ⟨[], 0⟩ (N : Int))) := Lib.hid (by unfold traceW; rw [hN])
    obtain ⟨R0, hR0⟩ : ∃ R0, Wr.num ⟨[], 0⟩ (N : Int) = R0 := ⟨_, rfl⟩
    rw [hR0] at HNum HTW
    rw [hN]
    clear hN ha hd hl hR h400 hb1 hR0 hsz
    go_enter Tryd.func9, Tryd.ntmps9
    go_wp2_with fail
    refine HNum.out.mono ?_
    rintro e w3 ⟨rfl, h1⟩
    have HS3 := Lib.hid h1
    clear h1 hw1
    go_wp2_with fail
    go_loopg [5, 6] N (fun g t5 t6 wr => ∃ k : Nat, Hid (g = N - k ∧ k ≤ N) ∧ t5 = .int .i64 k ∧ Hid (RTS w.heap.size w (5 + 730 * k) ((l.take k).foldl stepT R0) wr))
    case atStart => exact ⟨0, ⟨rfl, Nat.zero_le _⟩, rfl, HS3.out⟩
    case round =>
      obtain ⟨k, HG, rfl, HQ⟩ := hrel
      have hk0 : (0 : Int) ≤ k := by omega
      by_cases hlt : k < N
      · have hlt' : (k : Int) < N := by omega
        have hkl : k < l.length := by rw [HNN.out]; exact hlt
        have hk4 : k < 400 := by omega
        obtain ⟨a, rfl, hca⟩ := HA.out k hkl
        obtain ⟨x, hx⟩ : ∃ x, l[k]'hkl = x := ⟨_, rfl⟩
        rw [hx] at hca
        have HCA := Lib.hid hca
        have HTK : Hid (stepT ((l.take k).foldl stepT R0) x = (l.take (k + 1)).foldl stepT R0) := Lib.hid (by rw [List.take_succ_eq_append_getElem hkl, List.foldl_append, hx]; rfl)
        obtain ⟨Rk, hRk⟩ : ∃ Rk, (l.take k).foldl stepT R0 = Rk := ⟨_, rfl⟩
        rw [hRk] at HTK HQ
        have hsx := HSZ.out x (by rw [← hx]; exact List.getElem_mem _)
        have hone : ∀ y ∈ [x.op], y.u.size ≤ 100000 ∧ y.v.size ≤ 100000 := by
          intro y hy
          obtain rfl : y = x.op := by simpa using hy
          exact hsx
        have HCHK := Lib.hid (rcheck40_any x wr (HD.out.below HQ.out.below))
        have HBL := Lib.hid (bytes1_len x.op)
        have HBY : Hid (∀ w' g, OpBox w' g x.op → Calls Tryd.prog 22 #[.slice (some ⟨g, 0, none⟩) 1 1] w' fun e w3 => e = .returned (.tuple #[.string (bs (bytesW [x.op]).out), .int .i64 (bytesW [x.op]).e]) ∧ Below w'.heap.size w' w3) := Lib.hid fun w' g hg =>
          rbytes34_any (some ⟨g, 0, none⟩) 1 [x.op] (by simp) hone w' (opsAt_one hg)
        obtain ⟨T, hT⟩ : ∃ T, (bytesW [x.op]).out = T := ⟨_, rfl⟩
        obtain ⟨TE, hTE⟩ : ∃ TE, (bytesW [x.op]).e = TE := ⟨_, rfl⟩
        obtain ⟨TS, hTS⟩ : ∃ TS, bs T = TS := ⟨_, rfl⟩
        obtain ⟨E, hE⟩ : ∃ E, evM x = E := ⟨_, rfl⟩
        have HSTEP : Hid (stepT Rk x = (((((Rk.fail E).num x.at_).num x.err).txt T).num x.dp).num x.dc) := Lib.hid (by rw [← hE, ← hT]; rfl)
        rw [hE] at HCHK
        rw [hT, hTE, hTS] at HBY
        rw [hT] at HBL
        have HTS := Lib.hid hTS
        obtain ⟨at_, ⟨kk, p, t, n, aa, mm, u, v⟩, er, dp, dc⟩ := x
        obtain ⟨d0, d1, d2, d3, d4, d5, d6, d7, d8, d9, d10, d11⟩ := hca.below HQ.out.below
        simp only at d0 d1 d2 d3 d4 d5 d6 d7 d8 d9 d10 d11
        simp only [EvR.cells] at HCHK
        simp only at HSTEP HBY
        clear hx hca hRk hsx hT hTE hTS hE hone
        go_wp2_with fail
        refine HCHK.out.mono ?_
        rintro e w4 ⟨rfl, hb4⟩
        have HQ4 := Lib.hid (HQ.out.step hb4)
        clear hb4 d0 d1 d2 d3 d4 d5 d6 d7 d8 d9 d10 d11
        go_wp2_with fail
        refine (HQ4.out.fail (Nat.le_refl _) E).mono ?_
        rintro e w5 ⟨rfl, hs5⟩
        have HQ5 := Lib.hid hs5
        obtain ⟨d0, d1, d2, d3, d4, d5, d6, d7, d8, d9, d10, d11⟩ := HCA.out.below hs5.below
        simp only at d0 d1 d2 d3 d4 d5 d6 d7 d8 d9 d10 d11
        clear hs5
        go_wp2_with fail
        refine (HBY.out _ _ (World.alloc_heap_new _ _)).mono ?_
        rintro e w6 ⟨rfl, hb6⟩
        have HQ6 := Lib.hid ((HQ5.out.step ((Below.refl _ _).alloc (Nat.le_refl _) _)).step hb6)
        clear hb6 d0 d1 d2 d3 d4 d5 d6 d7 d8 d9 d10 d11
        obtain ⟨d0, d1, d2, d3, d4, d5, d6, d7, d8, d9, d10, d11⟩ := HCA.out.below HQ6.out.below
        simp only at d0 d1 d2 d3 d4 d5 d6 d7 d8 d9 d10 d11
        go_wp2_with fail
        refine (HQ6.out.num (Nat.le_refl _) (by omega) at_).mono ?_
        rintro e w7 ⟨rfl, hs⟩
        have HQ7 := Lib.hid hs
        clear hs d0 d1 d2 d3 d4 d5 d6 d7 d8 d9 d10 d11
        obtain ⟨d0, d1, d2, d3, d4, d5, d6, d7, d8, d9, d10, d11⟩ := HCA.out.below HQ7.out.below
        simp only at d0 d1 d2 d3 d4 d5 d6 d7 d8 d9 d10 d11
        go_wp2_with fail
        refine (HQ7.out.num (Nat.le_refl _) (by omega) er).mono ?_
        rintro e w8 ⟨rfl, hs⟩
        have HQ8 := Lib.hid hs
        clear hs d0 d1 d2 d3 d4 d5 d6 d7 d8 d9 d10 d11
        obtain ⟨d0, d1, d2, d3, d4, d5, d6, d7, d8, d9, d10, d11⟩ := HCA.out.below HQ8.out.below
        simp only at d0 d1 d2 d3 d4 d5 d6 d7 d8 d9 d10 d11
        go_wp2_with fail
        rw [← HTS.out]
        refine (HQ8.out.txt (Nat.le_refl _) (by omega) T HBL.out).mono ?_
        rintro e w9 ⟨rfl, hs⟩
        rw [HTS.out]
        have HQ9 := Lib.hid hs
        clear hs d0 d1 d2 d3 d4 d5 d6 d7 d8 d9 d10 d11
        obtain ⟨d0, d1, d2, d3, d4, d5, d6, d7, d8, d9, d10, d11⟩ := HCA.out.below HQ9.out.below
        simp only at d0 d1 d2 d3 d4 d5 d6 d7 d8 d9 d10 d11
        go_wp2_with fail
        refine (HQ9.out.num (Nat.le_refl _) (by omega) dp).mono ?_
        rintro e w10 ⟨rfl, hs⟩
        have HQ10 := Lib.hid hs
        clear hs d0 d1 d2 d3 d4 d5 d6 d7 d8 d9 d10 d11
        obtain ⟨d0, d1, d2, d3, d4, d5, d6, d7, d8, d9, d10, d11⟩ := HCA.out.below HQ10.out.below
        simp only at d0 d1 d2 d3 d4 d5 d6 d7 d8 d9 d10 d11
        go_wp2_with fail
        refine (HQ10.out.num (Nat.le_refl _) (by omega) dc).mono ?_
        rintro e w11 ⟨rfl, hs⟩
        have HQ11 : Hid (RTS w.heap.size w (5 + 730 * (k + 1)) ((l.take (k + 1)).foldl stepT R0) w11) := Lib.hid (by rw [← HTK.out, HSTEP.out]; exact ⟨hs.wr, hs.below, by have := hs.len; omega⟩)
        clear hs d0 d1 d2 d3 d4 d5 d6 d7 d8 d9 d10 d11
        go_wp2_with fail
        go_roundg (N - (k + 1))
        case rel => exact ⟨k + 1, ⟨rfl, hlt⟩, by go_num, HQ11⟩
        case measure => have := HG.out; omega
      · have hlt' : ¬ (k : Int) < N := by omega
        have htk : l.take k = l := List.take_of_length_le (by rw [HNN.out]; omega)
        rw [htk] at HQ
        have HDONE := Lib.hid (wdone_any' w.heap.size (l.foldl stepT R0) wr HQ.out.wr)
        obtain ⟨Rk, hRk⟩ : ∃ Rk, l.foldl stepT R0 = Rk := ⟨_, rfl⟩
        have HFIN : Hid (R = (Rk.out, Rk.e)) := Lib.hid (by rw [HR.out, HTW.out, hRk])
        rw [hRk] at HDONE
        clear htk hRk
        go_wp2_with fail
        refine HDONE.out.mono ?_
        rintro e w4 ⟨rfl, hb4⟩
        have HB4 := Lib.hid (HQ.out.below.trans (hb4.mono HQ.out.below.size))
        clear hb4
        go_wp2_with fail
        go_ret2
        unfold BytesTPost
        rw [HRR.out, HFIN.out]
        exact ⟨rfl, HB4.out⟩
end Go.Proofs.YtjmfdacnaodfdaaDoor
