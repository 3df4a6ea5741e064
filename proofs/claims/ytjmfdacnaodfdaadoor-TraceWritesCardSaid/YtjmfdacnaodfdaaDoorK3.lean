/- package hearsayref34: put. Operations in a slice. Operations as bytes: the program's and the document's. An operation off bytes: the plain machine. -/
import Derived.Test.YtjmfdacnaodfdaaDoorK2
import Derived.Deep.LoopGhost
import Derived.Deep.QuietTactic
import Derived.BigQuiet
import Derived.Lib.SmallJoins
namespace Go.Proofs.YtjmfdacnaodfdaaDoor
set_option linter.unusedVariables false
set_option linter.unusedSimpArgs false
open Go.RowKit

/-- Where the document's put stands. -/
structure RPutS (b xb : Nat) (w0 : World) (x : OpR) (B : Nat) (r : Wr) (w : World) : Prop where
  wr : WrAt w b r
  kept : KeptBut b w0 w
  box : OpBox w xb x
  len : r.l.length ≤ B
theorem WrAt.below {w w' : World} {b : Nat} {r : Wr} (h : WrAt w b r) (hb : Below w.heap.size w w') : WrAt w' b r := WAt.below h hb
theorem RPutS.num {b xb : Nat} {w0 : World} {x : OpR} {B : Nat} {r : Wr} {w : World} (h : RPutS b xb w0 x B r w) (hx : xb ≠ b) (hl : B ≤ 1000000000) (n : Int) :
    Calls Tryd.prog 20 #[.pointer (some ⟨b, 0, none⟩), .int .i64 n] w fun v w' => v = .returned (.tuple #[]) ∧ RPutS b xb w0 x (B + 5) (r.num n) w' :=
  (wnum_any' b r n (Nat.le_trans h.len hl) w h.wr).mono fun v w' ⟨e, h1, h2⟩ => ⟨e, h1, h.kept.trans h2, h.box.keptBut h2 hx, by have := r.num_len n; have := h.len; omega⟩
theorem RPutS.txt {b xb : Nat} {w0 : World} {x : OpR} {B : Nat} {r : Wr} {w : World} (h : RPutS b xb w0 x B r w) (hx : xb ≠ b) (T : ByteArray) (hT : T.size ≤ 100000) (hl : B ≤ 100000000) :
    Calls Tryd.prog 23 #[.pointer (some ⟨b, 0, none⟩), .string T] w fun v w' => v = .returned (.tuple #[]) ∧ RPutS b xb w0 x (B + 100005) (r.txt T.data.toList) w' :=
  (wtxt_any' b r T.data.toList (by have := h.len; rw [show T.data.toList.length = T.size from (by simp)]; omega) w h.wr).mono fun v w' ⟨e, h1, h2⟩ => ⟨e, h1, h.kept.trans h2, h.box.keptBut h2 hx, by have h3 := r.txt_len T.data.toList; have := h.len; rw [show T.data.toList.length = T.size from (by simp)] at h3; omega⟩
theorem RPutS.fail {b xb : Nat} {w0 : World} {x : OpR} {B : Nat} {r : Wr} {w : World} (h : RPutS b xb w0 x B r w) (hx : xb ≠ b) (f : Int) :
    Calls Tryd.prog 21 #[.pointer (some ⟨b, 0, none⟩), .int .i64 f] w fun v w' => v = .returned (.tuple #[]) ∧ RPutS b xb w0 x B (r.fail f) w' :=
  (wfail_any' b r f w h.wr).mono fun v w' ⟨e, h1, h2⟩ => ⟨e, h1, h.kept.trans h2, h.box.keptBut h2 hx, by rw [Wr.fail_len]; exact h.len⟩
theorem RPutS.below {b xb : Nat} {w0 : World} {x : OpR} {B : Nat} {r : Wr} {w w' : World} (h : RPutS b xb w0 x B r w) (hb : Below w.heap.size w w') : RPutS b xb w0 x B r w' :=
  ⟨h.wr.below hb, h.kept.trans (KeptBut.of_below hb), h.box.below hb, h.len⟩
/-- What a put comes to. -/
def RPutPost (b : Nat) (r : Wr) (w : World) (v : Ending) (w' : World) : Prop := v = .returned (.tuple #[]) ∧ WrAt w' b r ∧ KeptBut b w w'
theorem op_stop (r : Wr) (x : OpR) (h : checkM x ≠ 0) : r.op x = r.fail (checkM x) := by unfold Wr.op; rw [if_neg h]
theorem op_go (r : Wr) (x : OpR) (h : checkM x = 0) : r.op x = r.body x := by unfold Wr.op; rw [if_pos h]

set_option maxHeartbeats 4000000 in
set_option maxRecDepth 100000 in
theorem rput34_0 (b : Nat) (r : Wr) (p t n a m : Int) (u v : ByteArray) (hu : u.size ≤ 100000) (hv : v.size ≤ 100000) (hl : r.l.length ≤ 500000) (w : World) (h : WrAt w b r) :
    Calls Tryd.prog 47 #[.pointer (some ⟨b, 0, none⟩), .agg (OpR.cells ⟨0, p, t, n, a, m, u, v⟩)] w (RPutPost b (r.op ⟨0, p, t, n, a, m, u, v⟩) w) := by
  have hlt : b < w.heap.size := by
    rcases Nat.lt_or_ge b w.heap.size with h' | h'
    · exact h'
    · unfold WrAt WAt at h; simp [Array.getElem?_eq_none h'] at h
  obtain ⟨w1, hw1⟩ : ∃ W, w.alloc (.cells (OpR.cells ⟨0, p, t, n, a, m, u, v⟩) 30) = W := ⟨_, rfl⟩
  have hb1 : Below w.heap.size w w1 := by rw [← hw1]; exact (Below.refl _ _).alloc (Nat.le_refl _) _
  have hbox : OpBox w1 w.heap.size ⟨0, p, t, n, a, m, u, v⟩ := by rw [← hw1]; exact World.alloc_heap_new _ _
  have HS : Hid (RPutS b w.heap.size w ⟨0, p, t, n, a, m, u, v⟩ 500000 r w1) := Lib.hid ⟨h.below hb1, KeptBut.of_below hb1, hbox, hl⟩
  have HC := Lib.hid (rcheck_any ⟨0, p, t, n, a, m, u, v⟩ w1)
  rw [rcheck_eq] at HC
  have hne : w.heap.size ≠ b := by omega
  have HNE := Lib.hid hne
  obtain ⟨c0, c1, c2, c3, c4, c5, c6, c7⟩ := hbox.cells
  simp only at c0 c1 c2 c3 c4 c5 c6 c7
  obtain ⟨E, hE⟩ : ∃ E, checkM ⟨0, p, t, n, a, m, u, v⟩ = E := ⟨_, rfl⟩
  have HOP : Hid (r.op ⟨0, p, t, n, a, m, u, v⟩ = ((((r.fail E).num 0).num p).txt u.data.toList).txt v.data.toList) := Lib.hid (by
    by_cases h0 : E = 0
    · subst h0
      rw [op_go _ _ hE, Wr.fail_zero]
      have f0 : fbit 0 0 = false := by decide +kernel
      have f1 : fbit 0 1 = false := by decide +kernel
      have f2 : fbit 0 2 = false := by decide +kernel
      have f3 : fbit 0 3 = false := by decide +kernel
      have f4 : fbit 0 4 = true := by decide +kernel
      have f5 : fbit 0 5 = true := by decide +kernel
      have e : Int.toNat (0 : Int) = 0 := rfl
      simp only [Wr.body, Wr.nums, Wr.txts, e, Nat.add_zero, Nat.reduceAdd, f0, f1, f2, f3, f4, f5, if_true, if_false, Bool.false_eq_true]
      try rfl
    · have h1 := Wr.fail_ne r E h0
      rw [op_stop _ _ (by rw [hE]; exact h0), hE]
      simp only [Wr.num_stop _ h1, Wr.txt_stop _ h1])
  rw [HOP.out]
  rw [hE] at HC
  have HV := Lib.hid hv
  have HU := Lib.hid hu
  simp only [OpR.cells] at hw1 ⊢
  clear hb1 hbox h hE hne hl hv hu
  go_enter Tryd.func47, Tryd.ntmps47
  go_wp2_with fail
  refine HC.out.mono ?_
  rintro e w2 ⟨rfl, hb2⟩
  have HS2 := Lib.hid (HS.out.below hb2)
  obtain ⟨d0, d1, d2, d3, d4, d5, d6, d7⟩ := HS2.out.box.cells
  simp only at d0 d1 d2 d3 d4 d5 d6 d7
  clear hb2 c0 c1 c2 c3 c4 c5 c6 c7 hw1
  go_wp2_with fail
  refine (HS2.out.fail HNE.out E).mono ?_
  rintro e w3 ⟨rfl, hs⟩
  have HS3 := Lib.hid hs
  obtain ⟨c0, c1, c2, c3, c4, c5, c6, c7⟩ := HS3.out.box.cells
  simp only at c0 c1 c2 c3 c4 c5 c6 c7
  clear hs d0 d1 d2 d3 d4 d5 d6 d7
  go_wp2_with fail
  refine (HS3.out.num HNE.out  (by omega) 0).mono ?_
  rintro e w4 ⟨rfl, hs⟩
  have HS4 := Lib.hid hs
  obtain ⟨d0, d1, d2, d3, d4, d5, d6, d7⟩ := HS4.out.box.cells
  simp only at d0 d1 d2 d3 d4 d5 d6 d7
  clear hs c0 c1 c2 c3 c4 c5 c6 c7
  go_wp2_with fail
  refine (HS4.out.num HNE.out  (by omega) p).mono ?_
  rintro e w5 ⟨rfl, hs⟩
  have HS5 := Lib.hid hs
  obtain ⟨c0, c1, c2, c3, c4, c5, c6, c7⟩ := HS5.out.box.cells
  simp only at c0 c1 c2 c3 c4 c5 c6 c7
  clear hs d0 d1 d2 d3 d4 d5 d6 d7
  go_wp2_with fail
  refine (HS5.out.txt HNE.out u HU.out (by omega)).mono ?_
  rintro e w6 ⟨rfl, hs⟩
  have HS6 := Lib.hid hs
  obtain ⟨d0, d1, d2, d3, d4, d5, d6, d7⟩ := HS6.out.box.cells
  simp only at d0 d1 d2 d3 d4 d5 d6 d7
  clear hs c0 c1 c2 c3 c4 c5 c6 c7
  go_wp2_with fail
  refine (HS6.out.txt HNE.out v HV.out (by omega)).mono ?_
  rintro e w7 ⟨rfl, hs⟩
  have HSE := Lib.hid hs
  obtain ⟨c0, c1, c2, c3, c4, c5, c6, c7⟩ := HSE.out.box.cells
  simp only at c0 c1 c2 c3 c4 c5 c6 c7
  clear hs d0 d1 d2 d3 d4 d5 d6 d7
  go_wp2_with fail
  go_end0
  exact ⟨rfl, HSE.out.wr, HSE.out.kept⟩

set_option maxHeartbeats 4000000 in
set_option maxRecDepth 100000 in
theorem rput34_1 (b : Nat) (r : Wr) (p t n a m : Int) (u v : ByteArray) (hu : u.size ≤ 100000) (hv : v.size ≤ 100000) (hl : r.l.length ≤ 500000) (w : World) (h : WrAt w b r) :
    Calls Tryd.prog 47 #[.pointer (some ⟨b, 0, none⟩), .agg (OpR.cells ⟨1, p, t, n, a, m, u, v⟩)] w (RPutPost b (r.op ⟨1, p, t, n, a, m, u, v⟩) w) := by
  have hlt : b < w.heap.size := by
    rcases Nat.lt_or_ge b w.heap.size with h' | h'
    · exact h'
    · unfold WrAt WAt at h; simp [Array.getElem?_eq_none h'] at h
  obtain ⟨w1, hw1⟩ : ∃ W, w.alloc (.cells (OpR.cells ⟨1, p, t, n, a, m, u, v⟩) 30) = W := ⟨_, rfl⟩
  have hb1 : Below w.heap.size w w1 := by rw [← hw1]; exact (Below.refl _ _).alloc (Nat.le_refl _) _
  have hbox : OpBox w1 w.heap.size ⟨1, p, t, n, a, m, u, v⟩ := by rw [← hw1]; exact World.alloc_heap_new _ _
  have HS : Hid (RPutS b w.heap.size w ⟨1, p, t, n, a, m, u, v⟩ 500000 r w1) := Lib.hid ⟨h.below hb1, KeptBut.of_below hb1, hbox, hl⟩
  have HC := Lib.hid (rcheck_any ⟨1, p, t, n, a, m, u, v⟩ w1)
  rw [rcheck_eq] at HC
  have hne : w.heap.size ≠ b := by omega
  have HNE := Lib.hid hne
  obtain ⟨c0, c1, c2, c3, c4, c5, c6, c7⟩ := hbox.cells
  simp only at c0 c1 c2 c3 c4 c5 c6 c7
  obtain ⟨E, hE⟩ : ∃ E, checkM ⟨1, p, t, n, a, m, u, v⟩ = E := ⟨_, rfl⟩
  have HOP : Hid (r.op ⟨1, p, t, n, a, m, u, v⟩ = (((r.fail E).num 1).num p).txt u.data.toList) := Lib.hid (by
    by_cases h0 : E = 0
    · subst h0
      rw [op_go _ _ hE, Wr.fail_zero]
      have f0 : fbit 1 0 = false := by decide +kernel
      have f1 : fbit 1 1 = false := by decide +kernel
      have f2 : fbit 1 2 = false := by decide +kernel
      have f3 : fbit 1 3 = false := by decide +kernel
      have f4 : fbit 1 4 = true := by decide +kernel
      have f5 : fbit 1 5 = false := by decide +kernel
      have e : Int.toNat (1 : Int) = 1 := rfl
      simp only [Wr.body, Wr.nums, Wr.txts, e, Nat.add_zero, Nat.reduceAdd, f0, f1, f2, f3, f4, f5, if_true, if_false, Bool.false_eq_true]
      try rfl
    · have h1 := Wr.fail_ne r E h0
      rw [op_stop _ _ (by rw [hE]; exact h0), hE]
      simp only [Wr.num_stop _ h1, Wr.txt_stop _ h1])
  rw [HOP.out]
  rw [hE] at HC
  have HV := Lib.hid hv
  have HU := Lib.hid hu
  simp only [OpR.cells] at hw1 ⊢
  clear hb1 hbox h hE hne hl hv hu
  go_enter Tryd.func47, Tryd.ntmps47
  go_wp2_with fail
  refine HC.out.mono ?_
  rintro e w2 ⟨rfl, hb2⟩
  have HS2 := Lib.hid (HS.out.below hb2)
  obtain ⟨d0, d1, d2, d3, d4, d5, d6, d7⟩ := HS2.out.box.cells
  simp only at d0 d1 d2 d3 d4 d5 d6 d7
  clear hb2 c0 c1 c2 c3 c4 c5 c6 c7 hw1
  go_wp2_with fail
  refine (HS2.out.fail HNE.out E).mono ?_
  rintro e w3 ⟨rfl, hs⟩
  have HS3 := Lib.hid hs
  obtain ⟨c0, c1, c2, c3, c4, c5, c6, c7⟩ := HS3.out.box.cells
  simp only at c0 c1 c2 c3 c4 c5 c6 c7
  clear hs d0 d1 d2 d3 d4 d5 d6 d7
  go_wp2_with fail
  refine (HS3.out.num HNE.out  (by omega) 1).mono ?_
  rintro e w4 ⟨rfl, hs⟩
  have HS4 := Lib.hid hs
  obtain ⟨d0, d1, d2, d3, d4, d5, d6, d7⟩ := HS4.out.box.cells
  simp only at d0 d1 d2 d3 d4 d5 d6 d7
  clear hs c0 c1 c2 c3 c4 c5 c6 c7
  go_wp2_with fail
  refine (HS4.out.num HNE.out  (by omega) p).mono ?_
  rintro e w5 ⟨rfl, hs⟩
  have HS5 := Lib.hid hs
  obtain ⟨c0, c1, c2, c3, c4, c5, c6, c7⟩ := HS5.out.box.cells
  simp only at c0 c1 c2 c3 c4 c5 c6 c7
  clear hs d0 d1 d2 d3 d4 d5 d6 d7
  go_wp2_with fail
  refine (HS5.out.txt HNE.out u HU.out (by omega)).mono ?_
  rintro e w6 ⟨rfl, hs⟩
  have HSE := Lib.hid hs
  obtain ⟨d0, d1, d2, d3, d4, d5, d6, d7⟩ := HSE.out.box.cells
  simp only at d0 d1 d2 d3 d4 d5 d6 d7
  clear hs c0 c1 c2 c3 c4 c5 c6 c7
  go_wp2_with fail
  go_end0
  exact ⟨rfl, HSE.out.wr, HSE.out.kept⟩

set_option maxHeartbeats 4000000 in
set_option maxRecDepth 100000 in
theorem rput34_2 (b : Nat) (r : Wr) (p t n a m : Int) (u v : ByteArray) (hu : u.size ≤ 100000) (hv : v.size ≤ 100000) (hl : r.l.length ≤ 500000) (w : World) (h : WrAt w b r) :
    Calls Tryd.prog 47 #[.pointer (some ⟨b, 0, none⟩), .agg (OpR.cells ⟨2, p, t, n, a, m, u, v⟩)] w (RPutPost b (r.op ⟨2, p, t, n, a, m, u, v⟩) w) := by
  have hlt : b < w.heap.size := by
    rcases Nat.lt_or_ge b w.heap.size with h' | h'
    · exact h'
    · unfold WrAt WAt at h; simp [Array.getElem?_eq_none h'] at h
  obtain ⟨w1, hw1⟩ : ∃ W, w.alloc (.cells (OpR.cells ⟨2, p, t, n, a, m, u, v⟩) 30) = W := ⟨_, rfl⟩
  have hb1 : Below w.heap.size w w1 := by rw [← hw1]; exact (Below.refl _ _).alloc (Nat.le_refl _) _
  have hbox : OpBox w1 w.heap.size ⟨2, p, t, n, a, m, u, v⟩ := by rw [← hw1]; exact World.alloc_heap_new _ _
  have HS : Hid (RPutS b w.heap.size w ⟨2, p, t, n, a, m, u, v⟩ 500000 r w1) := Lib.hid ⟨h.below hb1, KeptBut.of_below hb1, hbox, hl⟩
  have HC := Lib.hid (rcheck_any ⟨2, p, t, n, a, m, u, v⟩ w1)
  rw [rcheck_eq] at HC
  have hne : w.heap.size ≠ b := by omega
  have HNE := Lib.hid hne
  obtain ⟨c0, c1, c2, c3, c4, c5, c6, c7⟩ := hbox.cells
  simp only at c0 c1 c2 c3 c4 c5 c6 c7
  obtain ⟨E, hE⟩ : ∃ E, checkM ⟨2, p, t, n, a, m, u, v⟩ = E := ⟨_, rfl⟩
  have HOP : Hid (r.op ⟨2, p, t, n, a, m, u, v⟩ = (((r.fail E).num 2).num p).num n) := Lib.hid (by
    by_cases h0 : E = 0
    · subst h0
      rw [op_go _ _ hE, Wr.fail_zero]
      have f0 : fbit 2 0 = false := by decide +kernel
      have f1 : fbit 2 1 = true := by decide +kernel
      have f2 : fbit 2 2 = false := by decide +kernel
      have f3 : fbit 2 3 = false := by decide +kernel
      have f4 : fbit 2 4 = false := by decide +kernel
      have f5 : fbit 2 5 = false := by decide +kernel
      have e : Int.toNat (2 : Int) = 2 := rfl
      simp only [Wr.body, Wr.nums, Wr.txts, e, Nat.add_zero, Nat.reduceAdd, f0, f1, f2, f3, f4, f5, if_true, if_false, Bool.false_eq_true]
      try rfl
    · have h1 := Wr.fail_ne r E h0
      rw [op_stop _ _ (by rw [hE]; exact h0), hE]
      simp only [Wr.num_stop _ h1, Wr.txt_stop _ h1])
  rw [HOP.out]
  rw [hE] at HC
  have HV := Lib.hid hv
  have HU := Lib.hid hu
  simp only [OpR.cells] at hw1 ⊢
  clear hb1 hbox h hE hne hl hv hu
  go_enter Tryd.func47, Tryd.ntmps47
  go_wp2_with fail
  refine HC.out.mono ?_
  rintro e w2 ⟨rfl, hb2⟩
  have HS2 := Lib.hid (HS.out.below hb2)
  obtain ⟨d0, d1, d2, d3, d4, d5, d6, d7⟩ := HS2.out.box.cells
  simp only at d0 d1 d2 d3 d4 d5 d6 d7
  clear hb2 c0 c1 c2 c3 c4 c5 c6 c7 hw1
  go_wp2_with fail
  refine (HS2.out.fail HNE.out E).mono ?_
  rintro e w3 ⟨rfl, hs⟩
  have HS3 := Lib.hid hs
  obtain ⟨c0, c1, c2, c3, c4, c5, c6, c7⟩ := HS3.out.box.cells
  simp only at c0 c1 c2 c3 c4 c5 c6 c7
  clear hs d0 d1 d2 d3 d4 d5 d6 d7
  go_wp2_with fail
  refine (HS3.out.num HNE.out  (by omega) 2).mono ?_
  rintro e w4 ⟨rfl, hs⟩
  have HS4 := Lib.hid hs
  obtain ⟨d0, d1, d2, d3, d4, d5, d6, d7⟩ := HS4.out.box.cells
  simp only at d0 d1 d2 d3 d4 d5 d6 d7
  clear hs c0 c1 c2 c3 c4 c5 c6 c7
  go_wp2_with fail
  refine (HS4.out.num HNE.out  (by omega) p).mono ?_
  rintro e w5 ⟨rfl, hs⟩
  have HS5 := Lib.hid hs
  obtain ⟨c0, c1, c2, c3, c4, c5, c6, c7⟩ := HS5.out.box.cells
  simp only at c0 c1 c2 c3 c4 c5 c6 c7
  clear hs d0 d1 d2 d3 d4 d5 d6 d7
  go_wp2_with fail
  refine (HS5.out.num HNE.out  (by omega) n).mono ?_
  rintro e w6 ⟨rfl, hs⟩
  have HSE := Lib.hid hs
  obtain ⟨d0, d1, d2, d3, d4, d5, d6, d7⟩ := HSE.out.box.cells
  simp only at d0 d1 d2 d3 d4 d5 d6 d7
  clear hs c0 c1 c2 c3 c4 c5 c6 c7
  go_wp2_with fail
  go_end0
  exact ⟨rfl, HSE.out.wr, HSE.out.kept⟩

set_option maxHeartbeats 4000000 in
set_option maxRecDepth 100000 in
theorem rput34_3 (b : Nat) (r : Wr) (p t n a m : Int) (u v : ByteArray) (hu : u.size ≤ 100000) (hv : v.size ≤ 100000) (hl : r.l.length ≤ 500000) (w : World) (h : WrAt w b r) :
    Calls Tryd.prog 47 #[.pointer (some ⟨b, 0, none⟩), .agg (OpR.cells ⟨3, p, t, n, a, m, u, v⟩)] w (RPutPost b (r.op ⟨3, p, t, n, a, m, u, v⟩) w) := by
  have hlt : b < w.heap.size := by
    rcases Nat.lt_or_ge b w.heap.size with h' | h'
    · exact h'
    · unfold WrAt WAt at h; simp [Array.getElem?_eq_none h'] at h
  obtain ⟨w1, hw1⟩ : ∃ W, w.alloc (.cells (OpR.cells ⟨3, p, t, n, a, m, u, v⟩) 30) = W := ⟨_, rfl⟩
  have hb1 : Below w.heap.size w w1 := by rw [← hw1]; exact (Below.refl _ _).alloc (Nat.le_refl _) _
  have hbox : OpBox w1 w.heap.size ⟨3, p, t, n, a, m, u, v⟩ := by rw [← hw1]; exact World.alloc_heap_new _ _
  have HS : Hid (RPutS b w.heap.size w ⟨3, p, t, n, a, m, u, v⟩ 500000 r w1) := Lib.hid ⟨h.below hb1, KeptBut.of_below hb1, hbox, hl⟩
  have HC := Lib.hid (rcheck_any ⟨3, p, t, n, a, m, u, v⟩ w1)
  rw [rcheck_eq] at HC
  have hne : w.heap.size ≠ b := by omega
  have HNE := Lib.hid hne
  obtain ⟨c0, c1, c2, c3, c4, c5, c6, c7⟩ := hbox.cells
  simp only at c0 c1 c2 c3 c4 c5 c6 c7
  obtain ⟨E, hE⟩ : ∃ E, checkM ⟨3, p, t, n, a, m, u, v⟩ = E := ⟨_, rfl⟩
  have HOP : Hid (r.op ⟨3, p, t, n, a, m, u, v⟩ = (((r.fail E).num 3).num p).num n) := Lib.hid (by
    by_cases h0 : E = 0
    · subst h0
      rw [op_go _ _ hE, Wr.fail_zero]
      have f0 : fbit 3 0 = false := by decide +kernel
      have f1 : fbit 3 1 = true := by decide +kernel
      have f2 : fbit 3 2 = false := by decide +kernel
      have f3 : fbit 3 3 = false := by decide +kernel
      have f4 : fbit 3 4 = false := by decide +kernel
      have f5 : fbit 3 5 = false := by decide +kernel
      have e : Int.toNat (3 : Int) = 3 := rfl
      simp only [Wr.body, Wr.nums, Wr.txts, e, Nat.add_zero, Nat.reduceAdd, f0, f1, f2, f3, f4, f5, if_true, if_false, Bool.false_eq_true]
      try rfl
    · have h1 := Wr.fail_ne r E h0
      rw [op_stop _ _ (by rw [hE]; exact h0), hE]
      simp only [Wr.num_stop _ h1, Wr.txt_stop _ h1])
  rw [HOP.out]
  rw [hE] at HC
  have HV := Lib.hid hv
  have HU := Lib.hid hu
  simp only [OpR.cells] at hw1 ⊢
  clear hb1 hbox h hE hne hl hv hu
  go_enter Tryd.func47, Tryd.ntmps47
  go_wp2_with fail
  refine HC.out.mono ?_
  rintro e w2 ⟨rfl, hb2⟩
  have HS2 := Lib.hid (HS.out.below hb2)
  obtain ⟨d0, d1, d2, d3, d4, d5, d6, d7⟩ := HS2.out.box.cells
  simp only at d0 d1 d2 d3 d4 d5 d6 d7
  clear hb2 c0 c1 c2 c3 c4 c5 c6 c7 hw1
  go_wp2_with fail
  refine (HS2.out.fail HNE.out E).mono ?_
  rintro e w3 ⟨rfl, hs⟩
  have HS3 := Lib.hid hs
  obtain ⟨c0, c1, c2, c3, c4, c5, c6, c7⟩ := HS3.out.box.cells
  simp only at c0 c1 c2 c3 c4 c5 c6 c7
  clear hs d0 d1 d2 d3 d4 d5 d6 d7
  go_wp2_with fail
  refine (HS3.out.num HNE.out  (by omega) 3).mono ?_
  rintro e w4 ⟨rfl, hs⟩
  have HS4 := Lib.hid hs
  obtain ⟨d0, d1, d2, d3, d4, d5, d6, d7⟩ := HS4.out.box.cells
  simp only at d0 d1 d2 d3 d4 d5 d6 d7
  clear hs c0 c1 c2 c3 c4 c5 c6 c7
  go_wp2_with fail
  refine (HS4.out.num HNE.out  (by omega) p).mono ?_
  rintro e w5 ⟨rfl, hs⟩
  have HS5 := Lib.hid hs
  obtain ⟨c0, c1, c2, c3, c4, c5, c6, c7⟩ := HS5.out.box.cells
  simp only at c0 c1 c2 c3 c4 c5 c6 c7
  clear hs d0 d1 d2 d3 d4 d5 d6 d7
  go_wp2_with fail
  refine (HS5.out.num HNE.out  (by omega) n).mono ?_
  rintro e w6 ⟨rfl, hs⟩
  have HSE := Lib.hid hs
  obtain ⟨d0, d1, d2, d3, d4, d5, d6, d7⟩ := HSE.out.box.cells
  simp only at d0 d1 d2 d3 d4 d5 d6 d7
  clear hs c0 c1 c2 c3 c4 c5 c6 c7
  go_wp2_with fail
  go_end0
  exact ⟨rfl, HSE.out.wr, HSE.out.kept⟩

set_option maxHeartbeats 4000000 in
set_option maxRecDepth 100000 in
theorem rput34_4 (b : Nat) (r : Wr) (p t n a m : Int) (u v : ByteArray) (hu : u.size ≤ 100000) (hv : v.size ≤ 100000) (hl : r.l.length ≤ 500000) (w : World) (h : WrAt w b r) :
    Calls Tryd.prog 47 #[.pointer (some ⟨b, 0, none⟩), .agg (OpR.cells ⟨4, p, t, n, a, m, u, v⟩)] w (RPutPost b (r.op ⟨4, p, t, n, a, m, u, v⟩) w) := by
  have hlt : b < w.heap.size := by
    rcases Nat.lt_or_ge b w.heap.size with h' | h'
    · exact h'
    · unfold WrAt WAt at h; simp [Array.getElem?_eq_none h'] at h
  obtain ⟨w1, hw1⟩ : ∃ W, w.alloc (.cells (OpR.cells ⟨4, p, t, n, a, m, u, v⟩) 30) = W := ⟨_, rfl⟩
  have hb1 : Below w.heap.size w w1 := by rw [← hw1]; exact (Below.refl _ _).alloc (Nat.le_refl _) _
  have hbox : OpBox w1 w.heap.size ⟨4, p, t, n, a, m, u, v⟩ := by rw [← hw1]; exact World.alloc_heap_new _ _
  have HS : Hid (RPutS b w.heap.size w ⟨4, p, t, n, a, m, u, v⟩ 500000 r w1) := Lib.hid ⟨h.below hb1, KeptBut.of_below hb1, hbox, hl⟩
  have HC := Lib.hid (rcheck_any ⟨4, p, t, n, a, m, u, v⟩ w1)
  rw [rcheck_eq] at HC
  have hne : w.heap.size ≠ b := by omega
  have HNE := Lib.hid hne
  obtain ⟨c0, c1, c2, c3, c4, c5, c6, c7⟩ := hbox.cells
  simp only at c0 c1 c2 c3 c4 c5 c6 c7
  obtain ⟨E, hE⟩ : ∃ E, checkM ⟨4, p, t, n, a, m, u, v⟩ = E := ⟨_, rfl⟩
  have HOP : Hid (r.op ⟨4, p, t, n, a, m, u, v⟩ = ((((r.fail E).num 4).num p).num t).num n) := Lib.hid (by
    by_cases h0 : E = 0
    · subst h0
      rw [op_go _ _ hE, Wr.fail_zero]
      have f0 : fbit 4 0 = true := by decide +kernel
      have f1 : fbit 4 1 = true := by decide +kernel
      have f2 : fbit 4 2 = false := by decide +kernel
      have f3 : fbit 4 3 = false := by decide +kernel
      have f4 : fbit 4 4 = false := by decide +kernel
      have f5 : fbit 4 5 = false := by decide +kernel
      have e : Int.toNat (4 : Int) = 4 := rfl
      simp only [Wr.body, Wr.nums, Wr.txts, e, Nat.add_zero, Nat.reduceAdd, f0, f1, f2, f3, f4, f5, if_true, if_false, Bool.false_eq_true]
      try rfl
    · have h1 := Wr.fail_ne r E h0
      rw [op_stop _ _ (by rw [hE]; exact h0), hE]
      simp only [Wr.num_stop _ h1, Wr.txt_stop _ h1])
  rw [HOP.out]
  rw [hE] at HC
  have HV := Lib.hid hv
  have HU := Lib.hid hu
  simp only [OpR.cells] at hw1 ⊢
  clear hb1 hbox h hE hne hl hv hu
  go_enter Tryd.func47, Tryd.ntmps47
  go_wp2_with fail
  refine HC.out.mono ?_
  rintro e w2 ⟨rfl, hb2⟩
  have HS2 := Lib.hid (HS.out.below hb2)
  obtain ⟨d0, d1, d2, d3, d4, d5, d6, d7⟩ := HS2.out.box.cells
  simp only at d0 d1 d2 d3 d4 d5 d6 d7
  clear hb2 c0 c1 c2 c3 c4 c5 c6 c7 hw1
  go_wp2_with fail
  refine (HS2.out.fail HNE.out E).mono ?_
  rintro e w3 ⟨rfl, hs⟩
  have HS3 := Lib.hid hs
  obtain ⟨c0, c1, c2, c3, c4, c5, c6, c7⟩ := HS3.out.box.cells
  simp only at c0 c1 c2 c3 c4 c5 c6 c7
  clear hs d0 d1 d2 d3 d4 d5 d6 d7
  go_wp2_with fail
  refine (HS3.out.num HNE.out  (by omega) 4).mono ?_
  rintro e w4 ⟨rfl, hs⟩
  have HS4 := Lib.hid hs
  obtain ⟨d0, d1, d2, d3, d4, d5, d6, d7⟩ := HS4.out.box.cells
  simp only at d0 d1 d2 d3 d4 d5 d6 d7
  clear hs c0 c1 c2 c3 c4 c5 c6 c7
  go_wp2_with fail
  refine (HS4.out.num HNE.out  (by omega) p).mono ?_
  rintro e w5 ⟨rfl, hs⟩
  have HS5 := Lib.hid hs
  obtain ⟨c0, c1, c2, c3, c4, c5, c6, c7⟩ := HS5.out.box.cells
  simp only at c0 c1 c2 c3 c4 c5 c6 c7
  clear hs d0 d1 d2 d3 d4 d5 d6 d7
  go_wp2_with fail
  refine (HS5.out.num HNE.out  (by omega) t).mono ?_
  rintro e w6 ⟨rfl, hs⟩
  have HS6 := Lib.hid hs
  obtain ⟨d0, d1, d2, d3, d4, d5, d6, d7⟩ := HS6.out.box.cells
  simp only at d0 d1 d2 d3 d4 d5 d6 d7
  clear hs c0 c1 c2 c3 c4 c5 c6 c7
  go_wp2_with fail
  refine (HS6.out.num HNE.out  (by omega) n).mono ?_
  rintro e w7 ⟨rfl, hs⟩
  have HSE := Lib.hid hs
  obtain ⟨c0, c1, c2, c3, c4, c5, c6, c7⟩ := HSE.out.box.cells
  simp only at c0 c1 c2 c3 c4 c5 c6 c7
  clear hs d0 d1 d2 d3 d4 d5 d6 d7
  go_wp2_with fail
  go_end0
  exact ⟨rfl, HSE.out.wr, HSE.out.kept⟩

set_option maxHeartbeats 4000000 in
set_option maxRecDepth 100000 in
theorem rput34_5 (b : Nat) (r : Wr) (p t n a m : Int) (u v : ByteArray) (hu : u.size ≤ 100000) (hv : v.size ≤ 100000) (hl : r.l.length ≤ 500000) (w : World) (h : WrAt w b r) :
    Calls Tryd.prog 47 #[.pointer (some ⟨b, 0, none⟩), .agg (OpR.cells ⟨5, p, t, n, a, m, u, v⟩)] w (RPutPost b (r.op ⟨5, p, t, n, a, m, u, v⟩) w) := by
  have hlt : b < w.heap.size := by
    rcases Nat.lt_or_ge b w.heap.size with h' | h'
    · exact h'
    · unfold WrAt WAt at h; simp [Array.getElem?_eq_none h'] at h
  obtain ⟨w1, hw1⟩ : ∃ W, w.alloc (.cells (OpR.cells ⟨5, p, t, n, a, m, u, v⟩) 30) = W := ⟨_, rfl⟩
  have hb1 : Below w.heap.size w w1 := by rw [← hw1]; exact (Below.refl _ _).alloc (Nat.le_refl _) _
  have hbox : OpBox w1 w.heap.size ⟨5, p, t, n, a, m, u, v⟩ := by rw [← hw1]; exact World.alloc_heap_new _ _
  have HS : Hid (RPutS b w.heap.size w ⟨5, p, t, n, a, m, u, v⟩ 500000 r w1) := Lib.hid ⟨h.below hb1, KeptBut.of_below hb1, hbox, hl⟩
  have HC := Lib.hid (rcheck_any ⟨5, p, t, n, a, m, u, v⟩ w1)
  rw [rcheck_eq] at HC
  have hne : w.heap.size ≠ b := by omega
  have HNE := Lib.hid hne
  obtain ⟨c0, c1, c2, c3, c4, c5, c6, c7⟩ := hbox.cells
  simp only at c0 c1 c2 c3 c4 c5 c6 c7
  obtain ⟨E, hE⟩ : ∃ E, checkM ⟨5, p, t, n, a, m, u, v⟩ = E := ⟨_, rfl⟩
  have HOP : Hid (r.op ⟨5, p, t, n, a, m, u, v⟩ = ((((r.fail E).num 5).num p).num t).num n) := Lib.hid (by
    by_cases h0 : E = 0
    · subst h0
      rw [op_go _ _ hE, Wr.fail_zero]
      have f0 : fbit 5 0 = true := by decide +kernel
      have f1 : fbit 5 1 = true := by decide +kernel
      have f2 : fbit 5 2 = false := by decide +kernel
      have f3 : fbit 5 3 = false := by decide +kernel
      have f4 : fbit 5 4 = false := by decide +kernel
      have f5 : fbit 5 5 = false := by decide +kernel
      have e : Int.toNat (5 : Int) = 5 := rfl
      simp only [Wr.body, Wr.nums, Wr.txts, e, Nat.add_zero, Nat.reduceAdd, f0, f1, f2, f3, f4, f5, if_true, if_false, Bool.false_eq_true]
      try rfl
    · have h1 := Wr.fail_ne r E h0
      rw [op_stop _ _ (by rw [hE]; exact h0), hE]
      simp only [Wr.num_stop _ h1, Wr.txt_stop _ h1])
  rw [HOP.out]
  rw [hE] at HC
  have HV := Lib.hid hv
  have HU := Lib.hid hu
  simp only [OpR.cells] at hw1 ⊢
  clear hb1 hbox h hE hne hl hv hu
  go_enter Tryd.func47, Tryd.ntmps47
  go_wp2_with fail
  refine HC.out.mono ?_
  rintro e w2 ⟨rfl, hb2⟩
  have HS2 := Lib.hid (HS.out.below hb2)
  obtain ⟨d0, d1, d2, d3, d4, d5, d6, d7⟩ := HS2.out.box.cells
  simp only at d0 d1 d2 d3 d4 d5 d6 d7
  clear hb2 c0 c1 c2 c3 c4 c5 c6 c7 hw1
  go_wp2_with fail
  refine (HS2.out.fail HNE.out E).mono ?_
  rintro e w3 ⟨rfl, hs⟩
  have HS3 := Lib.hid hs
  obtain ⟨c0, c1, c2, c3, c4, c5, c6, c7⟩ := HS3.out.box.cells
  simp only at c0 c1 c2 c3 c4 c5 c6 c7
  clear hs d0 d1 d2 d3 d4 d5 d6 d7
  go_wp2_with fail
  refine (HS3.out.num HNE.out  (by omega) 5).mono ?_
  rintro e w4 ⟨rfl, hs⟩
  have HS4 := Lib.hid hs
  obtain ⟨d0, d1, d2, d3, d4, d5, d6, d7⟩ := HS4.out.box.cells
  simp only at d0 d1 d2 d3 d4 d5 d6 d7
  clear hs c0 c1 c2 c3 c4 c5 c6 c7
  go_wp2_with fail
  refine (HS4.out.num HNE.out  (by omega) p).mono ?_
  rintro e w5 ⟨rfl, hs⟩
  have HS5 := Lib.hid hs
  obtain ⟨c0, c1, c2, c3, c4, c5, c6, c7⟩ := HS5.out.box.cells
  simp only at c0 c1 c2 c3 c4 c5 c6 c7
  clear hs d0 d1 d2 d3 d4 d5 d6 d7
  go_wp2_with fail
  refine (HS5.out.num HNE.out  (by omega) t).mono ?_
  rintro e w6 ⟨rfl, hs⟩
  have HS6 := Lib.hid hs
  obtain ⟨d0, d1, d2, d3, d4, d5, d6, d7⟩ := HS6.out.box.cells
  simp only at d0 d1 d2 d3 d4 d5 d6 d7
  clear hs c0 c1 c2 c3 c4 c5 c6 c7
  go_wp2_with fail
  refine (HS6.out.num HNE.out  (by omega) n).mono ?_
  rintro e w7 ⟨rfl, hs⟩
  have HSE := Lib.hid hs
  obtain ⟨c0, c1, c2, c3, c4, c5, c6, c7⟩ := HSE.out.box.cells
  simp only at c0 c1 c2 c3 c4 c5 c6 c7
  clear hs d0 d1 d2 d3 d4 d5 d6 d7
  go_wp2_with fail
  go_end0
  exact ⟨rfl, HSE.out.wr, HSE.out.kept⟩

set_option maxHeartbeats 4000000 in
set_option maxRecDepth 100000 in
theorem rput34_6 (b : Nat) (r : Wr) (p t n a m : Int) (u v : ByteArray) (hu : u.size ≤ 100000) (hv : v.size ≤ 100000) (hl : r.l.length ≤ 500000) (w : World) (h : WrAt w b r) :
    Calls Tryd.prog 47 #[.pointer (some ⟨b, 0, none⟩), .agg (OpR.cells ⟨6, p, t, n, a, m, u, v⟩)] w (RPutPost b (r.op ⟨6, p, t, n, a, m, u, v⟩) w) := by
  have hlt : b < w.heap.size := by
    rcases Nat.lt_or_ge b w.heap.size with h' | h'
    · exact h'
    · unfold WrAt WAt at h; simp [Array.getElem?_eq_none h'] at h
  obtain ⟨w1, hw1⟩ : ∃ W, w.alloc (.cells (OpR.cells ⟨6, p, t, n, a, m, u, v⟩) 30) = W := ⟨_, rfl⟩
  have hb1 : Below w.heap.size w w1 := by rw [← hw1]; exact (Below.refl _ _).alloc (Nat.le_refl _) _
  have hbox : OpBox w1 w.heap.size ⟨6, p, t, n, a, m, u, v⟩ := by rw [← hw1]; exact World.alloc_heap_new _ _
  have HS : Hid (RPutS b w.heap.size w ⟨6, p, t, n, a, m, u, v⟩ 500000 r w1) := Lib.hid ⟨h.below hb1, KeptBut.of_below hb1, hbox, hl⟩
  have HC := Lib.hid (rcheck_any ⟨6, p, t, n, a, m, u, v⟩ w1)
  rw [rcheck_eq] at HC
  have hne : w.heap.size ≠ b := by omega
  have HNE := Lib.hid hne
  obtain ⟨c0, c1, c2, c3, c4, c5, c6, c7⟩ := hbox.cells
  simp only at c0 c1 c2 c3 c4 c5 c6 c7
  obtain ⟨E, hE⟩ : ∃ E, checkM ⟨6, p, t, n, a, m, u, v⟩ = E := ⟨_, rfl⟩
  have HOP : Hid (r.op ⟨6, p, t, n, a, m, u, v⟩ = ((((r.fail E).num 6).num p).num t).num n) := Lib.hid (by
    by_cases h0 : E = 0
    · subst h0
      rw [op_go _ _ hE, Wr.fail_zero]
      have f0 : fbit 6 0 = true := by decide +kernel
      have f1 : fbit 6 1 = true := by decide +kernel
      have f2 : fbit 6 2 = false := by decide +kernel
      have f3 : fbit 6 3 = false := by decide +kernel
      have f4 : fbit 6 4 = false := by decide +kernel
      have f5 : fbit 6 5 = false := by decide +kernel
      have e : Int.toNat (6 : Int) = 6 := rfl
      simp only [Wr.body, Wr.nums, Wr.txts, e, Nat.add_zero, Nat.reduceAdd, f0, f1, f2, f3, f4, f5, if_true, if_false, Bool.false_eq_true]
      try rfl
    · have h1 := Wr.fail_ne r E h0
      rw [op_stop _ _ (by rw [hE]; exact h0), hE]
      simp only [Wr.num_stop _ h1, Wr.txt_stop _ h1])
  rw [HOP.out]
  rw [hE] at HC
  have HV := Lib.hid hv
  have HU := Lib.hid hu
  simp only [OpR.cells] at hw1 ⊢
  clear hb1 hbox h hE hne hl hv hu
  go_enter Tryd.func47, Tryd.ntmps47
  go_wp2_with fail
  refine HC.out.mono ?_
  rintro e w2 ⟨rfl, hb2⟩
  have HS2 := Lib.hid (HS.out.below hb2)
  obtain ⟨d0, d1, d2, d3, d4, d5, d6, d7⟩ := HS2.out.box.cells
  simp only at d0 d1 d2 d3 d4 d5 d6 d7
  clear hb2 c0 c1 c2 c3 c4 c5 c6 c7 hw1
  go_wp2_with fail
  refine (HS2.out.fail HNE.out E).mono ?_
  rintro e w3 ⟨rfl, hs⟩
  have HS3 := Lib.hid hs
  obtain ⟨c0, c1, c2, c3, c4, c5, c6, c7⟩ := HS3.out.box.cells
  simp only at c0 c1 c2 c3 c4 c5 c6 c7
  clear hs d0 d1 d2 d3 d4 d5 d6 d7
  go_wp2_with fail
  refine (HS3.out.num HNE.out  (by omega) 6).mono ?_
  rintro e w4 ⟨rfl, hs⟩
  have HS4 := Lib.hid hs
  obtain ⟨d0, d1, d2, d3, d4, d5, d6, d7⟩ := HS4.out.box.cells
  simp only at d0 d1 d2 d3 d4 d5 d6 d7
  clear hs c0 c1 c2 c3 c4 c5 c6 c7
  go_wp2_with fail
  refine (HS4.out.num HNE.out  (by omega) p).mono ?_
  rintro e w5 ⟨rfl, hs⟩
  have HS5 := Lib.hid hs
  obtain ⟨c0, c1, c2, c3, c4, c5, c6, c7⟩ := HS5.out.box.cells
  simp only at c0 c1 c2 c3 c4 c5 c6 c7
  clear hs d0 d1 d2 d3 d4 d5 d6 d7
  go_wp2_with fail
  refine (HS5.out.num HNE.out  (by omega) t).mono ?_
  rintro e w6 ⟨rfl, hs⟩
  have HS6 := Lib.hid hs
  obtain ⟨d0, d1, d2, d3, d4, d5, d6, d7⟩ := HS6.out.box.cells
  simp only at d0 d1 d2 d3 d4 d5 d6 d7
  clear hs c0 c1 c2 c3 c4 c5 c6 c7
  go_wp2_with fail
  refine (HS6.out.num HNE.out  (by omega) n).mono ?_
  rintro e w7 ⟨rfl, hs⟩
  have HSE := Lib.hid hs
  obtain ⟨c0, c1, c2, c3, c4, c5, c6, c7⟩ := HSE.out.box.cells
  simp only at c0 c1 c2 c3 c4 c5 c6 c7
  clear hs d0 d1 d2 d3 d4 d5 d6 d7
  go_wp2_with fail
  go_end0
  exact ⟨rfl, HSE.out.wr, HSE.out.kept⟩

set_option maxHeartbeats 4000000 in
set_option maxRecDepth 100000 in
theorem rput34_7 (b : Nat) (r : Wr) (p t n a m : Int) (u v : ByteArray) (hu : u.size ≤ 100000) (hv : v.size ≤ 100000) (hl : r.l.length ≤ 500000) (w : World) (h : WrAt w b r) :
    Calls Tryd.prog 47 #[.pointer (some ⟨b, 0, none⟩), .agg (OpR.cells ⟨7, p, t, n, a, m, u, v⟩)] w (RPutPost b (r.op ⟨7, p, t, n, a, m, u, v⟩) w) := by
  have hlt : b < w.heap.size := by
    rcases Nat.lt_or_ge b w.heap.size with h' | h'
    · exact h'
    · unfold WrAt WAt at h; simp [Array.getElem?_eq_none h'] at h
  obtain ⟨w1, hw1⟩ : ∃ W, w.alloc (.cells (OpR.cells ⟨7, p, t, n, a, m, u, v⟩) 30) = W := ⟨_, rfl⟩
  have hb1 : Below w.heap.size w w1 := by rw [← hw1]; exact (Below.refl _ _).alloc (Nat.le_refl _) _
  have hbox : OpBox w1 w.heap.size ⟨7, p, t, n, a, m, u, v⟩ := by rw [← hw1]; exact World.alloc_heap_new _ _
  have HS : Hid (RPutS b w.heap.size w ⟨7, p, t, n, a, m, u, v⟩ 500000 r w1) := Lib.hid ⟨h.below hb1, KeptBut.of_below hb1, hbox, hl⟩
  have HC := Lib.hid (rcheck_any ⟨7, p, t, n, a, m, u, v⟩ w1)
  rw [rcheck_eq] at HC
  have hne : w.heap.size ≠ b := by omega
  have HNE := Lib.hid hne
  obtain ⟨c0, c1, c2, c3, c4, c5, c6, c7⟩ := hbox.cells
  simp only at c0 c1 c2 c3 c4 c5 c6 c7
  obtain ⟨E, hE⟩ : ∃ E, checkM ⟨7, p, t, n, a, m, u, v⟩ = E := ⟨_, rfl⟩
  have HOP : Hid (r.op ⟨7, p, t, n, a, m, u, v⟩ = ((((((r.fail E).num 7).num p).num t).num n).num a).num m) := Lib.hid (by
    by_cases h0 : E = 0
    · subst h0
      rw [op_go _ _ hE, Wr.fail_zero]
      have f0 : fbit 7 0 = true := by decide +kernel
      have f1 : fbit 7 1 = true := by decide +kernel
      have f2 : fbit 7 2 = true := by decide +kernel
      have f3 : fbit 7 3 = true := by decide +kernel
      have f4 : fbit 7 4 = false := by decide +kernel
      have f5 : fbit 7 5 = false := by decide +kernel
      have e : Int.toNat (7 : Int) = 7 := rfl
      simp only [Wr.body, Wr.nums, Wr.txts, e, Nat.add_zero, Nat.reduceAdd, f0, f1, f2, f3, f4, f5, if_true, if_false, Bool.false_eq_true]
      try rfl
    · have h1 := Wr.fail_ne r E h0
      rw [op_stop _ _ (by rw [hE]; exact h0), hE]
      simp only [Wr.num_stop _ h1, Wr.txt_stop _ h1])
  rw [HOP.out]
  rw [hE] at HC
  have HV := Lib.hid hv
  have HU := Lib.hid hu
  simp only [OpR.cells] at hw1 ⊢
  clear hb1 hbox h hE hne hl hv hu
  go_enter Tryd.func47, Tryd.ntmps47
  go_wp2_with fail
  refine HC.out.mono ?_
  rintro e w2 ⟨rfl, hb2⟩
  have HS2 := Lib.hid (HS.out.below hb2)
  obtain ⟨d0, d1, d2, d3, d4, d5, d6, d7⟩ := HS2.out.box.cells
  simp only at d0 d1 d2 d3 d4 d5 d6 d7
  clear hb2 c0 c1 c2 c3 c4 c5 c6 c7 hw1
  go_wp2_with fail
  refine (HS2.out.fail HNE.out E).mono ?_
  rintro e w3 ⟨rfl, hs⟩
  have HS3 := Lib.hid hs
  obtain ⟨c0, c1, c2, c3, c4, c5, c6, c7⟩ := HS3.out.box.cells
  simp only at c0 c1 c2 c3 c4 c5 c6 c7
  clear hs d0 d1 d2 d3 d4 d5 d6 d7
  go_wp2_with fail
  refine (HS3.out.num HNE.out  (by omega) 7).mono ?_
  rintro e w4 ⟨rfl, hs⟩
  have HS4 := Lib.hid hs
  obtain ⟨d0, d1, d2, d3, d4, d5, d6, d7⟩ := HS4.out.box.cells
  simp only at d0 d1 d2 d3 d4 d5 d6 d7
  clear hs c0 c1 c2 c3 c4 c5 c6 c7
  go_wp2_with fail
  refine (HS4.out.num HNE.out  (by omega) p).mono ?_
  rintro e w5 ⟨rfl, hs⟩
  have HS5 := Lib.hid hs
  obtain ⟨c0, c1, c2, c3, c4, c5, c6, c7⟩ := HS5.out.box.cells
  simp only at c0 c1 c2 c3 c4 c5 c6 c7
  clear hs d0 d1 d2 d3 d4 d5 d6 d7
  go_wp2_with fail
  refine (HS5.out.num HNE.out  (by omega) t).mono ?_
  rintro e w6 ⟨rfl, hs⟩
  have HS6 := Lib.hid hs
  obtain ⟨d0, d1, d2, d3, d4, d5, d6, d7⟩ := HS6.out.box.cells
  simp only at d0 d1 d2 d3 d4 d5 d6 d7
  clear hs c0 c1 c2 c3 c4 c5 c6 c7
  go_wp2_with fail
  refine (HS6.out.num HNE.out  (by omega) n).mono ?_
  rintro e w7 ⟨rfl, hs⟩
  have HS7 := Lib.hid hs
  obtain ⟨c0, c1, c2, c3, c4, c5, c6, c7⟩ := HS7.out.box.cells
  simp only at c0 c1 c2 c3 c4 c5 c6 c7
  clear hs d0 d1 d2 d3 d4 d5 d6 d7
  go_wp2_with fail
  refine (HS7.out.num HNE.out  (by omega) a).mono ?_
  rintro e w8 ⟨rfl, hs⟩
  have HS8 := Lib.hid hs
  obtain ⟨d0, d1, d2, d3, d4, d5, d6, d7⟩ := HS8.out.box.cells
  simp only at d0 d1 d2 d3 d4 d5 d6 d7
  clear hs c0 c1 c2 c3 c4 c5 c6 c7
  go_wp2_with fail
  refine (HS8.out.num HNE.out  (by omega) m).mono ?_
  rintro e w9 ⟨rfl, hs⟩
  have HSE := Lib.hid hs
  obtain ⟨c0, c1, c2, c3, c4, c5, c6, c7⟩ := HSE.out.box.cells
  simp only at c0 c1 c2 c3 c4 c5 c6 c7
  clear hs d0 d1 d2 d3 d4 d5 d6 d7
  go_wp2_with fail
  go_end0
  exact ⟨rfl, HSE.out.wr, HSE.out.kept⟩

set_option maxHeartbeats 4000000 in
set_option maxRecDepth 100000 in
theorem rput34_8 (b : Nat) (r : Wr) (p t n a m : Int) (u v : ByteArray) (hu : u.size ≤ 100000) (hv : v.size ≤ 100000) (hl : r.l.length ≤ 500000) (w : World) (h : WrAt w b r) :
    Calls Tryd.prog 47 #[.pointer (some ⟨b, 0, none⟩), .agg (OpR.cells ⟨8, p, t, n, a, m, u, v⟩)] w (RPutPost b (r.op ⟨8, p, t, n, a, m, u, v⟩) w) := by
  have hlt : b < w.heap.size := by
    rcases Nat.lt_or_ge b w.heap.size with h' | h'
    · exact h'
    · unfold WrAt WAt at h; simp [Array.getElem?_eq_none h'] at h
  obtain ⟨w1, hw1⟩ : ∃ W, w.alloc (.cells (OpR.cells ⟨8, p, t, n, a, m, u, v⟩) 30) = W := ⟨_, rfl⟩
  have hb1 : Below w.heap.size w w1 := by rw [← hw1]; exact (Below.refl _ _).alloc (Nat.le_refl _) _
  have hbox : OpBox w1 w.heap.size ⟨8, p, t, n, a, m, u, v⟩ := by rw [← hw1]; exact World.alloc_heap_new _ _
  have HS : Hid (RPutS b w.heap.size w ⟨8, p, t, n, a, m, u, v⟩ 500000 r w1) := Lib.hid ⟨h.below hb1, KeptBut.of_below hb1, hbox, hl⟩
  have HC := Lib.hid (rcheck_any ⟨8, p, t, n, a, m, u, v⟩ w1)
  rw [rcheck_eq] at HC
  have hne : w.heap.size ≠ b := by omega
  have HNE := Lib.hid hne
  obtain ⟨c0, c1, c2, c3, c4, c5, c6, c7⟩ := hbox.cells
  simp only at c0 c1 c2 c3 c4 c5 c6 c7
  obtain ⟨E, hE⟩ : ∃ E, checkM ⟨8, p, t, n, a, m, u, v⟩ = E := ⟨_, rfl⟩
  have HOP : Hid (r.op ⟨8, p, t, n, a, m, u, v⟩ = (((r.fail E).num 8).num p).num n) := Lib.hid (by
    by_cases h0 : E = 0
    · subst h0
      rw [op_go _ _ hE, Wr.fail_zero]
      have f0 : fbit 8 0 = false := by decide +kernel
      have f1 : fbit 8 1 = true := by decide +kernel
      have f2 : fbit 8 2 = false := by decide +kernel
      have f3 : fbit 8 3 = false := by decide +kernel
      have f4 : fbit 8 4 = false := by decide +kernel
      have f5 : fbit 8 5 = false := by decide +kernel
      have e : Int.toNat (8 : Int) = 8 := rfl
      simp only [Wr.body, Wr.nums, Wr.txts, e, Nat.add_zero, Nat.reduceAdd, f0, f1, f2, f3, f4, f5, if_true, if_false, Bool.false_eq_true]
      try rfl
    · have h1 := Wr.fail_ne r E h0
      rw [op_stop _ _ (by rw [hE]; exact h0), hE]
      simp only [Wr.num_stop _ h1, Wr.txt_stop _ h1])
  rw [HOP.out]
  rw [hE] at HC
  have HV := Lib.hid hv
  have HU := Lib.hid hu
  simp only [OpR.cells] at hw1 ⊢
  clear hb1 hbox h hE hne hl hv hu
  go_enter Tryd.func47, Tryd.ntmps47
  go_wp2_with fail
  refine HC.out.mono ?_
  rintro e w2 ⟨rfl, hb2⟩
  have HS2 := Lib.hid (HS.out.below hb2)
  obtain ⟨d0, d1, d2, d3, d4, d5, d6, d7⟩ := HS2.out.box.cells
  simp only at d0 d1 d2 d3 d4 d5 d6 d7
  clear hb2 c0 c1 c2 c3 c4 c5 c6 c7 hw1
  go_wp2_with fail
  refine (HS2.out.fail HNE.out E).mono ?_
  rintro e w3 ⟨rfl, hs⟩
  have HS3 := Lib.hid hs
  obtain ⟨c0, c1, c2, c3, c4, c5, c6, c7⟩ := HS3.out.box.cells
  simp only at c0 c1 c2 c3 c4 c5 c6 c7
  clear hs d0 d1 d2 d3 d4 d5 d6 d7
  go_wp2_with fail
  refine (HS3.out.num HNE.out  (by omega) 8).mono ?_
  rintro e w4 ⟨rfl, hs⟩
  have HS4 := Lib.hid hs
  obtain ⟨d0, d1, d2, d3, d4, d5, d6, d7⟩ := HS4.out.box.cells
  simp only at d0 d1 d2 d3 d4 d5 d6 d7
  clear hs c0 c1 c2 c3 c4 c5 c6 c7
  go_wp2_with fail
  refine (HS4.out.num HNE.out  (by omega) p).mono ?_
  rintro e w5 ⟨rfl, hs⟩
  have HS5 := Lib.hid hs
  obtain ⟨c0, c1, c2, c3, c4, c5, c6, c7⟩ := HS5.out.box.cells
  simp only at c0 c1 c2 c3 c4 c5 c6 c7
  clear hs d0 d1 d2 d3 d4 d5 d6 d7
  go_wp2_with fail
  refine (HS5.out.num HNE.out  (by omega) n).mono ?_
  rintro e w6 ⟨rfl, hs⟩
  have HSE := Lib.hid hs
  obtain ⟨d0, d1, d2, d3, d4, d5, d6, d7⟩ := HSE.out.box.cells
  simp only at d0 d1 d2 d3 d4 d5 d6 d7
  clear hs c0 c1 c2 c3 c4 c5 c6 c7
  go_wp2_with fail
  go_end0
  exact ⟨rfl, HSE.out.wr, HSE.out.kept⟩

set_option maxHeartbeats 4000000 in
set_option maxRecDepth 100000 in
theorem rput34_9 (b : Nat) (r : Wr) (p t n a m : Int) (u v : ByteArray) (hu : u.size ≤ 100000) (hv : v.size ≤ 100000) (hl : r.l.length ≤ 500000) (w : World) (h : WrAt w b r) :
    Calls Tryd.prog 47 #[.pointer (some ⟨b, 0, none⟩), .agg (OpR.cells ⟨9, p, t, n, a, m, u, v⟩)] w (RPutPost b (r.op ⟨9, p, t, n, a, m, u, v⟩) w) := by
  have hlt : b < w.heap.size := by
    rcases Nat.lt_or_ge b w.heap.size with h' | h'
    · exact h'
    · unfold WrAt WAt at h; simp [Array.getElem?_eq_none h'] at h
  obtain ⟨w1, hw1⟩ : ∃ W, w.alloc (.cells (OpR.cells ⟨9, p, t, n, a, m, u, v⟩) 30) = W := ⟨_, rfl⟩
  have hb1 : Below w.heap.size w w1 := by rw [← hw1]; exact (Below.refl _ _).alloc (Nat.le_refl _) _
  have hbox : OpBox w1 w.heap.size ⟨9, p, t, n, a, m, u, v⟩ := by rw [← hw1]; exact World.alloc_heap_new _ _
  have HS : Hid (RPutS b w.heap.size w ⟨9, p, t, n, a, m, u, v⟩ 500000 r w1) := Lib.hid ⟨h.below hb1, KeptBut.of_below hb1, hbox, hl⟩
  have HC := Lib.hid (rcheck_any ⟨9, p, t, n, a, m, u, v⟩ w1)
  rw [rcheck_eq] at HC
  have hne : w.heap.size ≠ b := by omega
  have HNE := Lib.hid hne
  obtain ⟨c0, c1, c2, c3, c4, c5, c6, c7⟩ := hbox.cells
  simp only at c0 c1 c2 c3 c4 c5 c6 c7
  obtain ⟨E, hE⟩ : ∃ E, checkM ⟨9, p, t, n, a, m, u, v⟩ = E := ⟨_, rfl⟩
  have HOP : Hid (r.op ⟨9, p, t, n, a, m, u, v⟩ = ((((r.fail E).num 9).num p).num n).num a) := Lib.hid (by
    by_cases h0 : E = 0
    · subst h0
      rw [op_go _ _ hE, Wr.fail_zero]
      have f0 : fbit 9 0 = false := by decide +kernel
      have f1 : fbit 9 1 = true := by decide +kernel
      have f2 : fbit 9 2 = true := by decide +kernel
      have f3 : fbit 9 3 = false := by decide +kernel
      have f4 : fbit 9 4 = false := by decide +kernel
      have f5 : fbit 9 5 = false := by decide +kernel
      have e : Int.toNat (9 : Int) = 9 := rfl
      simp only [Wr.body, Wr.nums, Wr.txts, e, Nat.add_zero, Nat.reduceAdd, f0, f1, f2, f3, f4, f5, if_true, if_false, Bool.false_eq_true]
      try rfl
    · have h1 := Wr.fail_ne r E h0
      rw [op_stop _ _ (by rw [hE]; exact h0), hE]
      simp only [Wr.num_stop _ h1, Wr.txt_stop _ h1])
  rw [HOP.out]
  rw [hE] at HC
  have HV := Lib.hid hv
  have HU := Lib.hid hu
  simp only [OpR.cells] at hw1 ⊢
  clear hb1 hbox h hE hne hl hv hu
  go_enter Tryd.func47, Tryd.ntmps47
  go_wp2_with fail
  refine HC.out.mono ?_
  rintro e w2 ⟨rfl, hb2⟩
  have HS2 := Lib.hid (HS.out.below hb2)
  obtain ⟨d0, d1, d2, d3, d4, d5, d6, d7⟩ := HS2.out.box.cells
  simp only at d0 d1 d2 d3 d4 d5 d6 d7
  clear hb2 c0 c1 c2 c3 c4 c5 c6 c7 hw1
  go_wp2_with fail
  refine (HS2.out.fail HNE.out E).mono ?_
  rintro e w3 ⟨rfl, hs⟩
  have HS3 := Lib.hid hs
  obtain ⟨c0, c1, c2, c3, c4, c5, c6, c7⟩ := HS3.out.box.cells
  simp only at c0 c1 c2 c3 c4 c5 c6 c7
  clear hs d0 d1 d2 d3 d4 d5 d6 d7
  go_wp2_with fail
  refine (HS3.out.num HNE.out  (by omega) 9).mono ?_
  rintro e w4 ⟨rfl, hs⟩
  have HS4 := Lib.hid hs
  obtain ⟨d0, d1, d2, d3, d4, d5, d6, d7⟩ := HS4.out.box.cells
  simp only at d0 d1 d2 d3 d4 d5 d6 d7
  clear hs c0 c1 c2 c3 c4 c5 c6 c7
  go_wp2_with fail
  refine (HS4.out.num HNE.out  (by omega) p).mono ?_
  rintro e w5 ⟨rfl, hs⟩
  have HS5 := Lib.hid hs
  obtain ⟨c0, c1, c2, c3, c4, c5, c6, c7⟩ := HS5.out.box.cells
  simp only at c0 c1 c2 c3 c4 c5 c6 c7
  clear hs d0 d1 d2 d3 d4 d5 d6 d7
  go_wp2_with fail
  refine (HS5.out.num HNE.out  (by omega) n).mono ?_
  rintro e w6 ⟨rfl, hs⟩
  have HS6 := Lib.hid hs
  obtain ⟨d0, d1, d2, d3, d4, d5, d6, d7⟩ := HS6.out.box.cells
  simp only at d0 d1 d2 d3 d4 d5 d6 d7
  clear hs c0 c1 c2 c3 c4 c5 c6 c7
  go_wp2_with fail
  refine (HS6.out.num HNE.out  (by omega) a).mono ?_
  rintro e w7 ⟨rfl, hs⟩
  have HSE := Lib.hid hs
  obtain ⟨c0, c1, c2, c3, c4, c5, c6, c7⟩ := HSE.out.box.cells
  simp only at c0 c1 c2 c3 c4 c5 c6 c7
  clear hs d0 d1 d2 d3 d4 d5 d6 d7
  go_wp2_with fail
  go_end0
  exact ⟨rfl, HSE.out.wr, HSE.out.kept⟩

set_option maxHeartbeats 4000000 in
set_option maxRecDepth 100000 in
theorem rput34_10 (b : Nat) (r : Wr) (p t n a m : Int) (u v : ByteArray) (hu : u.size ≤ 100000) (hv : v.size ≤ 100000) (hl : r.l.length ≤ 500000) (w : World) (h : WrAt w b r) :
    Calls Tryd.prog 47 #[.pointer (some ⟨b, 0, none⟩), .agg (OpR.cells ⟨10, p, t, n, a, m, u, v⟩)] w (RPutPost b (r.op ⟨10, p, t, n, a, m, u, v⟩) w) := by
  have hlt : b < w.heap.size := by
    rcases Nat.lt_or_ge b w.heap.size with h' | h'
    · exact h'
    · unfold WrAt WAt at h; simp [Array.getElem?_eq_none h'] at h
  obtain ⟨w1, hw1⟩ : ∃ W, w.alloc (.cells (OpR.cells ⟨10, p, t, n, a, m, u, v⟩) 30) = W := ⟨_, rfl⟩
  have hb1 : Below w.heap.size w w1 := by rw [← hw1]; exact (Below.refl _ _).alloc (Nat.le_refl _) _
  have hbox : OpBox w1 w.heap.size ⟨10, p, t, n, a, m, u, v⟩ := by rw [← hw1]; exact World.alloc_heap_new _ _
  have HS : Hid (RPutS b w.heap.size w ⟨10, p, t, n, a, m, u, v⟩ 500000 r w1) := Lib.hid ⟨h.below hb1, KeptBut.of_below hb1, hbox, hl⟩
  have HC := Lib.hid (rcheck_any ⟨10, p, t, n, a, m, u, v⟩ w1)
  rw [rcheck_eq] at HC
  have hne : w.heap.size ≠ b := by omega
  have HNE := Lib.hid hne
  obtain ⟨c0, c1, c2, c3, c4, c5, c6, c7⟩ := hbox.cells
  simp only at c0 c1 c2 c3 c4 c5 c6 c7
  obtain ⟨E, hE⟩ : ∃ E, checkM ⟨10, p, t, n, a, m, u, v⟩ = E := ⟨_, rfl⟩
  have HOP : Hid (r.op ⟨10, p, t, n, a, m, u, v⟩ = ((r.fail E).num 10).num p) := Lib.hid (by
    by_cases h0 : E = 0
    · subst h0
      rw [op_go _ _ hE, Wr.fail_zero]
      have f0 : fbit 10 0 = false := by decide +kernel
      have f1 : fbit 10 1 = false := by decide +kernel
      have f2 : fbit 10 2 = false := by decide +kernel
      have f3 : fbit 10 3 = false := by decide +kernel
      have f4 : fbit 10 4 = false := by decide +kernel
      have f5 : fbit 10 5 = false := by decide +kernel
      have e : Int.toNat (10 : Int) = 10 := rfl
      simp only [Wr.body, Wr.nums, Wr.txts, e, Nat.add_zero, Nat.reduceAdd, f0, f1, f2, f3, f4, f5, if_true, if_false, Bool.false_eq_true]
      try rfl
    · have h1 := Wr.fail_ne r E h0
      rw [op_stop _ _ (by rw [hE]; exact h0), hE]
      simp only [Wr.num_stop _ h1, Wr.txt_stop _ h1])
  rw [HOP.out]
  rw [hE] at HC
  have HV := Lib.hid hv
  have HU := Lib.hid hu
  simp only [OpR.cells] at hw1 ⊢
  clear hb1 hbox h hE hne hl hv hu
  go_enter Tryd.func47, Tryd.ntmps47
  go_wp2_with fail
  refine HC.out.mono ?_
  rintro e w2 ⟨rfl, hb2⟩
  have HS2 := Lib.hid (HS.out.below hb2)
  obtain ⟨d0, d1, d2, d3, d4, d5, d6, d7⟩ := HS2.out.box.cells
  simp only at d0 d1 d2 d3 d4 d5 d6 d7
  clear hb2 c0 c1 c2 c3 c4 c5 c6 c7 hw1
  go_wp2_with fail
  refine (HS2.out.fail HNE.out E).mono ?_
  rintro e w3 ⟨rfl, hs⟩
  have HS3 := Lib.hid hs
  obtain ⟨c0, c1, c2, c3, c4, c5, c6, c7⟩ := HS3.out.box.cells
  simp only at c0 c1 c2 c3 c4 c5 c6 c7
  clear hs d0 d1 d2 d3 d4 d5 d6 d7
  go_wp2_with fail
  refine (HS3.out.num HNE.out  (by omega) 10).mono ?_
  rintro e w4 ⟨rfl, hs⟩
  have HS4 := Lib.hid hs
  obtain ⟨d0, d1, d2, d3, d4, d5, d6, d7⟩ := HS4.out.box.cells
  simp only at d0 d1 d2 d3 d4 d5 d6 d7
  clear hs c0 c1 c2 c3 c4 c5 c6 c7
  go_wp2_with fail
  refine (HS4.out.num HNE.out  (by omega) p).mono ?_
  rintro e w5 ⟨rfl, hs⟩
  have HSE := Lib.hid hs
  obtain ⟨c0, c1, c2, c3, c4, c5, c6, c7⟩ := HSE.out.box.cells
  simp only at c0 c1 c2 c3 c4 c5 c6 c7
  clear hs d0 d1 d2 d3 d4 d5 d6 d7
  go_wp2_with fail
  go_end0
  exact ⟨rfl, HSE.out.wr, HSE.out.kept⟩

set_option maxHeartbeats 4000000 in
set_option maxRecDepth 100000 in
theorem rput34_11 (b : Nat) (r : Wr) (p t n a m : Int) (u v : ByteArray) (hu : u.size ≤ 100000) (hv : v.size ≤ 100000) (hl : r.l.length ≤ 500000) (w : World) (h : WrAt w b r) :
    Calls Tryd.prog 47 #[.pointer (some ⟨b, 0, none⟩), .agg (OpR.cells ⟨11, p, t, n, a, m, u, v⟩)] w (RPutPost b (r.op ⟨11, p, t, n, a, m, u, v⟩) w) := by
  have hlt : b < w.heap.size := by
    rcases Nat.lt_or_ge b w.heap.size with h' | h'
    · exact h'
    · unfold WrAt WAt at h; simp [Array.getElem?_eq_none h'] at h
  obtain ⟨w1, hw1⟩ : ∃ W, w.alloc (.cells (OpR.cells ⟨11, p, t, n, a, m, u, v⟩) 30) = W := ⟨_, rfl⟩
  have hb1 : Below w.heap.size w w1 := by rw [← hw1]; exact (Below.refl _ _).alloc (Nat.le_refl _) _
  have hbox : OpBox w1 w.heap.size ⟨11, p, t, n, a, m, u, v⟩ := by rw [← hw1]; exact World.alloc_heap_new _ _
  have HS : Hid (RPutS b w.heap.size w ⟨11, p, t, n, a, m, u, v⟩ 500000 r w1) := Lib.hid ⟨h.below hb1, KeptBut.of_below hb1, hbox, hl⟩
  have HC := Lib.hid (rcheck_any ⟨11, p, t, n, a, m, u, v⟩ w1)
  rw [rcheck_eq] at HC
  have hne : w.heap.size ≠ b := by omega
  have HNE := Lib.hid hne
  obtain ⟨c0, c1, c2, c3, c4, c5, c6, c7⟩ := hbox.cells
  simp only at c0 c1 c2 c3 c4 c5 c6 c7
  obtain ⟨E, hE⟩ : ∃ E, checkM ⟨11, p, t, n, a, m, u, v⟩ = E := ⟨_, rfl⟩
  have HOP : Hid (r.op ⟨11, p, t, n, a, m, u, v⟩ = ((r.fail E).num 11).num p) := Lib.hid (by
    by_cases h0 : E = 0
    · subst h0
      rw [op_go _ _ hE, Wr.fail_zero]
      have f0 : fbit 11 0 = false := by decide +kernel
      have f1 : fbit 11 1 = false := by decide +kernel
      have f2 : fbit 11 2 = false := by decide +kernel
      have f3 : fbit 11 3 = false := by decide +kernel
      have f4 : fbit 11 4 = false := by decide +kernel
      have f5 : fbit 11 5 = false := by decide +kernel
      have e : Int.toNat (11 : Int) = 11 := rfl
      simp only [Wr.body, Wr.nums, Wr.txts, e, Nat.add_zero, Nat.reduceAdd, f0, f1, f2, f3, f4, f5, if_true, if_false, Bool.false_eq_true]
      try rfl
    · have h1 := Wr.fail_ne r E h0
      rw [op_stop _ _ (by rw [hE]; exact h0), hE]
      simp only [Wr.num_stop _ h1, Wr.txt_stop _ h1])
  rw [HOP.out]
  rw [hE] at HC
  have HV := Lib.hid hv
  have HU := Lib.hid hu
  simp only [OpR.cells] at hw1 ⊢
  clear hb1 hbox h hE hne hl hv hu
  go_enter Tryd.func47, Tryd.ntmps47
  go_wp2_with fail
  refine HC.out.mono ?_
  rintro e w2 ⟨rfl, hb2⟩
  have HS2 := Lib.hid (HS.out.below hb2)
  obtain ⟨d0, d1, d2, d3, d4, d5, d6, d7⟩ := HS2.out.box.cells
  simp only at d0 d1 d2 d3 d4 d5 d6 d7
  clear hb2 c0 c1 c2 c3 c4 c5 c6 c7 hw1
  go_wp2_with fail
  refine (HS2.out.fail HNE.out E).mono ?_
  rintro e w3 ⟨rfl, hs⟩
  have HS3 := Lib.hid hs
  obtain ⟨c0, c1, c2, c3, c4, c5, c6, c7⟩ := HS3.out.box.cells
  simp only at c0 c1 c2 c3 c4 c5 c6 c7
  clear hs d0 d1 d2 d3 d4 d5 d6 d7
  go_wp2_with fail
  refine (HS3.out.num HNE.out  (by omega) 11).mono ?_
  rintro e w4 ⟨rfl, hs⟩
  have HS4 := Lib.hid hs
  obtain ⟨d0, d1, d2, d3, d4, d5, d6, d7⟩ := HS4.out.box.cells
  simp only at d0 d1 d2 d3 d4 d5 d6 d7
  clear hs c0 c1 c2 c3 c4 c5 c6 c7
  go_wp2_with fail
  refine (HS4.out.num HNE.out  (by omega) p).mono ?_
  rintro e w5 ⟨rfl, hs⟩
  have HSE := Lib.hid hs
  obtain ⟨c0, c1, c2, c3, c4, c5, c6, c7⟩ := HSE.out.box.cells
  simp only at c0 c1 c2 c3 c4 c5 c6 c7
  clear hs d0 d1 d2 d3 d4 d5 d6 d7
  go_wp2_with fail
  go_end0
  exact ⟨rfl, HSE.out.wr, HSE.out.kept⟩

set_option maxHeartbeats 4000000 in
set_option maxRecDepth 100000 in
theorem rput34_12 (b : Nat) (r : Wr) (p t n a m : Int) (u v : ByteArray) (hu : u.size ≤ 100000) (hv : v.size ≤ 100000) (hl : r.l.length ≤ 500000) (w : World) (h : WrAt w b r) :
    Calls Tryd.prog 47 #[.pointer (some ⟨b, 0, none⟩), .agg (OpR.cells ⟨12, p, t, n, a, m, u, v⟩)] w (RPutPost b (r.op ⟨12, p, t, n, a, m, u, v⟩) w) := by
  have hlt : b < w.heap.size := by
    rcases Nat.lt_or_ge b w.heap.size with h' | h'
    · exact h'
    · unfold WrAt WAt at h; simp [Array.getElem?_eq_none h'] at h
  obtain ⟨w1, hw1⟩ : ∃ W, w.alloc (.cells (OpR.cells ⟨12, p, t, n, a, m, u, v⟩) 30) = W := ⟨_, rfl⟩
  have hb1 : Below w.heap.size w w1 := by rw [← hw1]; exact (Below.refl _ _).alloc (Nat.le_refl _) _
  have hbox : OpBox w1 w.heap.size ⟨12, p, t, n, a, m, u, v⟩ := by rw [← hw1]; exact World.alloc_heap_new _ _
  have HS : Hid (RPutS b w.heap.size w ⟨12, p, t, n, a, m, u, v⟩ 500000 r w1) := Lib.hid ⟨h.below hb1, KeptBut.of_below hb1, hbox, hl⟩
  have HC := Lib.hid (rcheck_any ⟨12, p, t, n, a, m, u, v⟩ w1)
  rw [rcheck_eq] at HC
  have hne : w.heap.size ≠ b := by omega
  have HNE := Lib.hid hne
  obtain ⟨c0, c1, c2, c3, c4, c5, c6, c7⟩ := hbox.cells
  simp only at c0 c1 c2 c3 c4 c5 c6 c7
  obtain ⟨E, hE⟩ : ∃ E, checkM ⟨12, p, t, n, a, m, u, v⟩ = E := ⟨_, rfl⟩
  have HOP : Hid (r.op ⟨12, p, t, n, a, m, u, v⟩ = ((r.fail E).num 12).num p) := Lib.hid (by
    by_cases h0 : E = 0
    · subst h0
      rw [op_go _ _ hE, Wr.fail_zero]
      have f0 : fbit 12 0 = false := by decide +kernel
      have f1 : fbit 12 1 = false := by decide +kernel
      have f2 : fbit 12 2 = false := by decide +kernel
      have f3 : fbit 12 3 = false := by decide +kernel
      have f4 : fbit 12 4 = false := by decide +kernel
      have f5 : fbit 12 5 = false := by decide +kernel
      have e : Int.toNat (12 : Int) = 12 := rfl
      simp only [Wr.body, Wr.nums, Wr.txts, e, Nat.add_zero, Nat.reduceAdd, f0, f1, f2, f3, f4, f5, if_true, if_false, Bool.false_eq_true]
      try rfl
    · have h1 := Wr.fail_ne r E h0
      rw [op_stop _ _ (by rw [hE]; exact h0), hE]
      simp only [Wr.num_stop _ h1, Wr.txt_stop _ h1])
  rw [HOP.out]
  rw [hE] at HC
  have HV := Lib.hid hv
  have HU := Lib.hid hu
  simp only [OpR.cells] at hw1 ⊢
  clear hb1 hbox h hE hne hl hv hu
  go_enter Tryd.func47, Tryd.ntmps47
  go_wp2_with fail
  refine HC.out.mono ?_
  rintro e w2 ⟨rfl, hb2⟩
  have HS2 := Lib.hid (HS.out.below hb2)
  obtain ⟨d0, d1, d2, d3, d4, d5, d6, d7⟩ := HS2.out.box.cells
  simp only at d0 d1 d2 d3 d4 d5 d6 d7
  clear hb2 c0 c1 c2 c3 c4 c5 c6 c7 hw1
  go_wp2_with fail
  refine (HS2.out.fail HNE.out E).mono ?_
  rintro e w3 ⟨rfl, hs⟩
  have HS3 := Lib.hid hs
  obtain ⟨c0, c1, c2, c3, c4, c5, c6, c7⟩ := HS3.out.box.cells
  simp only at c0 c1 c2 c3 c4 c5 c6 c7
  clear hs d0 d1 d2 d3 d4 d5 d6 d7
  go_wp2_with fail
  refine (HS3.out.num HNE.out  (by omega) 12).mono ?_
  rintro e w4 ⟨rfl, hs⟩
  have HS4 := Lib.hid hs
  obtain ⟨d0, d1, d2, d3, d4, d5, d6, d7⟩ := HS4.out.box.cells
  simp only at d0 d1 d2 d3 d4 d5 d6 d7
  clear hs c0 c1 c2 c3 c4 c5 c6 c7
  go_wp2_with fail
  refine (HS4.out.num HNE.out  (by omega) p).mono ?_
  rintro e w5 ⟨rfl, hs⟩
  have HSE := Lib.hid hs
  obtain ⟨c0, c1, c2, c3, c4, c5, c6, c7⟩ := HSE.out.box.cells
  simp only at c0 c1 c2 c3 c4 c5 c6 c7
  clear hs d0 d1 d2 d3 d4 d5 d6 d7
  go_wp2_with fail
  go_end0
  exact ⟨rfl, HSE.out.wr, HSE.out.kept⟩

set_option maxHeartbeats 4000000 in
set_option maxRecDepth 100000 in
theorem rput34_k0 (k : Int) (hk : k < 0) (b : Nat) (r : Wr) (p t n a m : Int) (u v : ByteArray) (hu : u.size ≤ 100000) (hv : v.size ≤ 100000) (hl : r.l.length ≤ 500000) (w : World) (h : WrAt w b r) :
    Calls Tryd.prog 47 #[.pointer (some ⟨b, 0, none⟩), .agg (OpR.cells ⟨k, p, t, n, a, m, u, v⟩)] w (RPutPost b (r.op ⟨k, p, t, n, a, m, u, v⟩) w) := by
  have hlt : b < w.heap.size := by
    rcases Nat.lt_or_ge b w.heap.size with h' | h'
    · exact h'
    · unfold WrAt WAt at h; simp [Array.getElem?_eq_none h'] at h
  obtain ⟨w1, hw1⟩ : ∃ W, w.alloc (.cells (OpR.cells ⟨k, p, t, n, a, m, u, v⟩) 30) = W := ⟨_, rfl⟩
  have hb1 : Below w.heap.size w w1 := by rw [← hw1]; exact (Below.refl _ _).alloc (Nat.le_refl _) _
  have hbox : OpBox w1 w.heap.size ⟨k, p, t, n, a, m, u, v⟩ := by rw [← hw1]; exact World.alloc_heap_new _ _
  have HS : Hid (RPutS b w.heap.size w ⟨k, p, t, n, a, m, u, v⟩ 500000 r w1) := Lib.hid ⟨h.below hb1, KeptBut.of_below hb1, hbox, hl⟩
  have HC := Lib.hid (rcheck_any ⟨k, p, t, n, a, m, u, v⟩ w1)
  rw [rcheck_eq] at HC
  have hne : w.heap.size ≠ b := by omega
  have HNE := Lib.hid hne
  obtain ⟨c0, c1, c2, c3, c4, c5, c6, c7⟩ := hbox.cells
  simp only at c0 c1 c2 c3 c4 c5 c6 c7
  obtain ⟨E, hE⟩ : ∃ E, checkM ⟨k, p, t, n, a, m, u, v⟩ = E := ⟨_, rfl⟩
  have HOP : Hid (r.op ⟨k, p, t, n, a, m, u, v⟩ = (((r.fail E).num k).num p).txt u.data.toList) := Lib.hid (by
    by_cases h0 : E = 0
    · subst h0
      have := (check_zero' _ hE).1
      simp only at this
      omega
    · have h1 := Wr.fail_ne r E h0
      rw [op_stop _ _ (by rw [hE]; exact h0), hE]
      simp only [Wr.num_stop _ h1, Wr.txt_stop _ h1])
  rw [HOP.out]
  rw [hE] at HC
  have HV := Lib.hid hv
  have HU := Lib.hid hu
  have t0 : ¬ 4 ≤ k := by omega
  have t1 : ¬ 2 ≤ k := by omega
  have t7 : (k == 7) = false := by simp; omega
  have t9 : (k == 9) = false := by simp; omega
  have t0 : (k == 0) = false := by simp; omega
  have t2 : k < 2 := by omega
  simp only [OpR.cells] at hw1 ⊢
  clear hb1 hbox h hE hne hl hv hu
  go_enter Tryd.func47, Tryd.ntmps47
  go_wp2_with fail
  refine HC.out.mono ?_
  rintro e w2 ⟨rfl, hb2⟩
  have HS2 := Lib.hid (HS.out.below hb2)
  obtain ⟨d0, d1, d2, d3, d4, d5, d6, d7⟩ := HS2.out.box.cells
  simp only at d0 d1 d2 d3 d4 d5 d6 d7
  clear hb2 c0 c1 c2 c3 c4 c5 c6 c7 hw1
  go_wp2_with fail
  refine (HS2.out.fail HNE.out E).mono ?_
  rintro e w3 ⟨rfl, hs⟩
  have HS3 := Lib.hid hs
  obtain ⟨c0, c1, c2, c3, c4, c5, c6, c7⟩ := HS3.out.box.cells
  simp only at c0 c1 c2 c3 c4 c5 c6 c7
  clear hs d0 d1 d2 d3 d4 d5 d6 d7
  go_wp2_with fail
  refine (HS3.out.num HNE.out  (by omega) k).mono ?_
  rintro e w4 ⟨rfl, hs⟩
  have HS4 := Lib.hid hs
  obtain ⟨d0, d1, d2, d3, d4, d5, d6, d7⟩ := HS4.out.box.cells
  simp only at d0 d1 d2 d3 d4 d5 d6 d7
  clear hs c0 c1 c2 c3 c4 c5 c6 c7
  go_wp2_with fail
  refine (HS4.out.num HNE.out  (by omega) p).mono ?_
  rintro e w5 ⟨rfl, hs⟩
  have HS5 := Lib.hid hs
  obtain ⟨c0, c1, c2, c3, c4, c5, c6, c7⟩ := HS5.out.box.cells
  simp only at c0 c1 c2 c3 c4 c5 c6 c7
  clear hs d0 d1 d2 d3 d4 d5 d6 d7
  go_wp2_with fail
  refine (HS5.out.txt HNE.out u HU.out (by omega)).mono ?_
  rintro e w6 ⟨rfl, hs⟩
  have HSE := Lib.hid hs
  obtain ⟨d0, d1, d2, d3, d4, d5, d6, d7⟩ := HSE.out.box.cells
  simp only at d0 d1 d2 d3 d4 d5 d6 d7
  clear hs c0 c1 c2 c3 c4 c5 c6 c7
  go_wp2_with fail
  go_end0
  exact ⟨rfl, HSE.out.wr, HSE.out.kept⟩

set_option maxHeartbeats 4000000 in
set_option maxRecDepth 100000 in
theorem rput34_k1 (k : Int) (hk : 12 < k) (b : Nat) (r : Wr) (p t n a m : Int) (u v : ByteArray) (hu : u.size ≤ 100000) (hv : v.size ≤ 100000) (hl : r.l.length ≤ 500000) (w : World) (h : WrAt w b r) :
    Calls Tryd.prog 47 #[.pointer (some ⟨b, 0, none⟩), .agg (OpR.cells ⟨k, p, t, n, a, m, u, v⟩)] w (RPutPost b (r.op ⟨k, p, t, n, a, m, u, v⟩) w) := by
  have hlt : b < w.heap.size := by
    rcases Nat.lt_or_ge b w.heap.size with h' | h'
    · exact h'
    · unfold WrAt WAt at h; simp [Array.getElem?_eq_none h'] at h
  obtain ⟨w1, hw1⟩ : ∃ W, w.alloc (.cells (OpR.cells ⟨k, p, t, n, a, m, u, v⟩) 30) = W := ⟨_, rfl⟩
  have hb1 : Below w.heap.size w w1 := by rw [← hw1]; exact (Below.refl _ _).alloc (Nat.le_refl _) _
  have hbox : OpBox w1 w.heap.size ⟨k, p, t, n, a, m, u, v⟩ := by rw [← hw1]; exact World.alloc_heap_new _ _
  have HS : Hid (RPutS b w.heap.size w ⟨k, p, t, n, a, m, u, v⟩ 500000 r w1) := Lib.hid ⟨h.below hb1, KeptBut.of_below hb1, hbox, hl⟩
  have HC := Lib.hid (rcheck_any ⟨k, p, t, n, a, m, u, v⟩ w1)
  rw [rcheck_eq] at HC
  have hne : w.heap.size ≠ b := by omega
  have HNE := Lib.hid hne
  obtain ⟨c0, c1, c2, c3, c4, c5, c6, c7⟩ := hbox.cells
  simp only at c0 c1 c2 c3 c4 c5 c6 c7
  obtain ⟨E, hE⟩ : ∃ E, checkM ⟨k, p, t, n, a, m, u, v⟩ = E := ⟨_, rfl⟩
  have HOP : Hid (r.op ⟨k, p, t, n, a, m, u, v⟩ = ((r.fail E).num k).num p) := Lib.hid (by
    by_cases h0 : E = 0
    · subst h0
      have := (check_zero' _ hE).1
      simp only at this
      omega
    · have h1 := Wr.fail_ne r E h0
      rw [op_stop _ _ (by rw [hE]; exact h0), hE]
      simp only [Wr.num_stop _ h1, Wr.txt_stop _ h1])
  rw [HOP.out]
  rw [hE] at HC
  have HV := Lib.hid hv
  have HU := Lib.hid hu
  have t0 : 4 ≤ k := by omega
  have t1 : ¬ k ≤ 7 := by omega
  have t2 : 2 ≤ k := by omega
  have t3 : ¬ k ≤ 9 := by omega
  have t7 : (k == 7) = false := by simp; omega
  have t9 : (k == 9) = false := by simp; omega
  have t0 : (k == 0) = false := by simp; omega
  have t2 : ¬ k < 2 := by omega
  simp only [OpR.cells] at hw1 ⊢
  clear hb1 hbox h hE hne hl hv hu
  go_enter Tryd.func47, Tryd.ntmps47
  go_wp2_with fail
  refine HC.out.mono ?_
  rintro e w2 ⟨rfl, hb2⟩
  have HS2 := Lib.hid (HS.out.below hb2)
  obtain ⟨d0, d1, d2, d3, d4, d5, d6, d7⟩ := HS2.out.box.cells
  simp only at d0 d1 d2 d3 d4 d5 d6 d7
  clear hb2 c0 c1 c2 c3 c4 c5 c6 c7 hw1
  go_wp2_with fail
  refine (HS2.out.fail HNE.out E).mono ?_
  rintro e w3 ⟨rfl, hs⟩
  have HS3 := Lib.hid hs
  obtain ⟨c0, c1, c2, c3, c4, c5, c6, c7⟩ := HS3.out.box.cells
  simp only at c0 c1 c2 c3 c4 c5 c6 c7
  clear hs d0 d1 d2 d3 d4 d5 d6 d7
  go_wp2_with fail
  refine (HS3.out.num HNE.out  (by omega) k).mono ?_
  rintro e w4 ⟨rfl, hs⟩
  have HS4 := Lib.hid hs
  obtain ⟨d0, d1, d2, d3, d4, d5, d6, d7⟩ := HS4.out.box.cells
  simp only at d0 d1 d2 d3 d4 d5 d6 d7
  clear hs c0 c1 c2 c3 c4 c5 c6 c7
  go_wp2_with fail
  refine (HS4.out.num HNE.out  (by omega) p).mono ?_
  rintro e w5 ⟨rfl, hs⟩
  have HSE := Lib.hid hs
  obtain ⟨c0, c1, c2, c3, c4, c5, c6, c7⟩ := HSE.out.box.cells
  simp only at c0 c1 c2 c3 c4 c5 c6 c7
  clear hs d0 d1 d2 d3 d4 d5 d6 d7
  go_wp2_with fail
  go_end0
  exact ⟨rfl, HSE.out.wr, HSE.out.kept⟩

theorem rput34_any (b : Nat) (r : Wr) (x : OpR) (hu : x.u.size ≤ 100000) (hv : x.v.size ≤ 100000) (hl : r.l.length ≤ 500000) (w : World) (h : WrAt w b r) :
    Calls Tryd.prog 47 #[.pointer (some ⟨b, 0, none⟩), .agg x.cells] w fun v w' => v = .returned (.tuple #[]) ∧ WrAt w' b (r.op x) ∧ KeptBut b w w' := by
  obtain ⟨k, p, t, n, a, m, u, v⟩ := x
  simp only at hu hv
  by_cases h0 : k < 0
  · exact rput34_k0 k h0 b r p t n a m u v hu hv hl w h
  · by_cases h1 : 12 < k
    · exact rput34_k1 k h1 b r p t n a m u v hu hv hl w h
    · rcases thirteen (show 0 ≤ k by omega) (show k < 13 by omega) with rfl | rfl | rfl | rfl | rfl | rfl | rfl | rfl | rfl | rfl | rfl | rfl | rfl
      · exact rput34_0 b r p t n a m u v hu hv hl w h
      · exact rput34_1 b r p t n a m u v hu hv hl w h
      · exact rput34_2 b r p t n a m u v hu hv hl w h
      · exact rput34_3 b r p t n a m u v hu hv hl w h
      · exact rput34_4 b r p t n a m u v hu hv hl w h
      · exact rput34_5 b r p t n a m u v hu hv hl w h
      · exact rput34_6 b r p t n a m u v hu hv hl w h
      · exact rput34_7 b r p t n a m u v hu hv hl w h
      · exact rput34_8 b r p t n a m u v hu hv hl w h
      · exact rput34_9 b r p t n a m u v hu hv hl w h
      · exact rput34_10 b r p t n a m u v hu hv hl w h
      · exact rput34_11 b r p t n a m u v hu hv hl w h
      · exact rput34_12 b r p t n a m u v hu hv hl w h
end Go.Proofs.YtjmfdacnaodfdaaDoor

namespace Go.Proofs.YtjmfdacnaodfdaaDoor
set_option linter.unusedVariables false
set_option linter.unusedSimpArgs false
open Go.RowKit

def opV (l : List OpR) : List Value := l.flatMap fun x => x.cells.toList
theorem opV_append (a b : List OpR) : opV (a ++ b) = opV a ++ opV b := by simp [opV]
theorem opV_length (l : List OpR) : (opV l).length = l.length * 8 := by
  induction l with
  | nil => rfl
  | cons f l ih => simp only [opV, List.flatMap_cons, List.length_append, List.length_cons] at ih ⊢; rw [ih]; simp [OpR.cells]; omega
theorem opV_drop : ∀ (l : List OpR) (j : Nat), (opV l).drop (j * 8) = opV (l.drop j)
  | l, 0 => by simp
  | [], j + 1 => by simp [opV]
  | x :: l, j + 1 => by
    show (x.cells.toList ++ opV l).drop ((j + 1) * 8) = opV (l.drop j)
    rw [← opV_drop l j, show (j + 1) * 8 = 8 + j * 8 by omega, ← List.drop_drop]
    rfl
theorem opV_at (l : List OpR) (i : Nat) (h : i < l.length) (j : Nat) (hj : j < 8) : (opV l)[i * 8 + j]? = l[i].cells[j]? := by
  rw [← List.getElem?_drop, opV_drop, List.drop_eq_getElem_cons h]
  show (l[i].cells.toList ++ opV _)[j]? = _
  rw [List.getElem?_append_left (by simp [OpR.cells]; omega)]
  simp
theorem opV_one (l : List OpR) : ∀ u ∈ opV l, u.oneCell' = true := by
  intro u hu
  simp only [opV, List.mem_flatMap] at hu
  obtain ⟨f, _, hf⟩ := hu
  simp [OpR.cells] at hf
  rcases hf with rfl | rfl | rfl | rfl | rfl | rfl | rfl | rfl <;> rfl

def Cell8 (w : World) (a : Addr) (x : OpR) : Prop := w.cell? a = some (.int .i64 x.k) ∧ w.cell? ⟨a.block, a.off + 1, none⟩ = some (.int .i64 x.p) ∧ w.cell? ⟨a.block, a.off + 2, none⟩ = some (.int .i64 x.t) ∧ w.cell? ⟨a.block, a.off + 3, none⟩ = some (.int .i64 x.n) ∧
  w.cell? ⟨a.block, a.off + 4, none⟩ = some (.int .i64 x.a) ∧ w.cell? ⟨a.block, a.off + 5, none⟩ = some (.int .i64 x.m) ∧ w.cell? ⟨a.block, a.off + 6, none⟩ = some (.string x.u) ∧ w.cell? ⟨a.block, a.off + 7, none⟩ = some (.string x.v)
def OpsAt (w : World) (A : Option Addr) (l : List OpR) : Prop := ∀ i (hi : i < l.length), ∃ a, A = some a ∧ Cell8 w (a.add (i * 8)) l[i]
theorem Cell8.below {w w' : World} {a : Addr} {x : OpR} (h : Cell8 w a x) (hb : Below w.heap.size w w') : Cell8 w' a x :=
  ⟨cell_below hb h.1, cell_below hb h.2.1, cell_below hb h.2.2.1, cell_below hb h.2.2.2.1, cell_below hb h.2.2.2.2.1, cell_below hb h.2.2.2.2.2.1, cell_below hb h.2.2.2.2.2.2.1, cell_below hb h.2.2.2.2.2.2.2⟩
theorem OpsAt.below {w w' : World} {A : Option Addr} {l : List OpR} (h : OpsAt w A l) (hb : Below w.heap.size w w') : OpsAt w' A l := fun i hi => by
  obtain ⟨a, e, h⟩ := h i hi
  exact ⟨a, e, h.below hb⟩
theorem ops_own {w : World} {base e n c : Nat} {A : Option Addr} {l : List OpR} (h : w.ownsRow base e 8 (.slice A n c) n (opV l)) : n = l.length ∧ OpsAt w A l := by
  have hn : n = l.length := by have := h.1; rw [opV_length] at this; omega
  refine ⟨hn, fun i hi => ?_⟩
  rcases h.2 with ⟨h1, h2⟩ | ⟨g, cap, cur, h1, hg, hb, h2, h3, h4, h5⟩
  · omega
  · cases h1
    refine ⟨_, rfl, ?_⟩
    have hadd : (⟨g, 0, none⟩ : Addr).add (i * 8) = ⟨g, i * 8, none⟩ := by
      unfold Addr.add
      split
      · rename_i h0; rw [h0]
      · simp
    have key : ∀ j u, j < 8 → l[i].cells[j]? = some u → w.cell? ⟨g, i * 8 + j, none⟩ = some u := by
      intro j u hj hu
      have hc := World.ownsRow.cellAt (w := w) (base := base) (e := e) (size := 8) (n := n) (cap := c) (g := g) (xs := opV l) h (i * 8 + j) (by rw [hn]; omega)
      rw [hc, opV_at l i hi j hj, hu]
    rw [hadd]
    exact ⟨key 0 _ (by omega) rfl, key 1 _ (by omega) rfl, key 2 _ (by omega) rfl, key 3 _ (by omega) rfl, key 4 _ (by omega) rfl, key 5 _ (by omega) rfl, key 6 _ (by omega) rfl, key 7 _ (by omega) rfl⟩

theorem info_Op8 : (Tryd.prog.info? 30).map (fun i => (i.zero, i.size, i.bytes)) = some (some (.agg #[.int .i64 0, .int .i64 0, .int .i64 0, .int .i64 0, .int .i64 0, .int .i64 0, .string ByteArray.empty, .string ByteArray.empty]), 8, 80) := by kernel_rfl
def opZ8 : Value := .agg #[.int .i64 0, .int .i64 0, .int .i64 0, .int .i64 0, .int .i64 0, .int .i64 0, .string ByteArray.empty, .string ByteArray.empty]

theorem cells_new2 (w : World) (o : Obj) (xs : List Value) (t : TypeId) (j : Nat) (u : Value) (h : xs[j]? = some u) : ((w.alloc o).alloc (.cells xs.toArray t)).cell? ((⟨w.heap.size + 1, 0, none⟩ : Addr).add j) = some u := by
  have h1 := cells_new (w.alloc o) xs t j u h
  have e : (w.alloc o).heap.size = w.heap.size + 1 := by simp
  rw [e] at h1
  exact h1
end Go.Proofs.YtjmfdacnaodfdaaDoor

namespace Go.Proofs.YtjmfdacnaodfdaaDoor
set_option linter.unusedVariables false
set_option linter.unusedSimpArgs false
open Go.RowKit

def bytesW (l : List OpR) : Wr := l.foldl Wr.op (Wr.num ⟨[], 0⟩ l.length)
theorem fold_len (l : List OpR) : ∀ r : Wr, (l.foldl Wr.op r).l.length ≤ r.l.length + 650 * l.length := by
  induction l with
  | nil => intro r; simp
  | cons x l ih =>
    intro r
    have h1 := ih (r.op x)
    have h2 := r.op_len x
    simp only [List.foldl_cons, List.length_cons]
    omega
theorem Wr.put_grows (r : Wr) (is : Bool) (s : List UInt8) : ∃ t, (r.put is s).l = r.l ++ t := by
  unfold Wr.put
  split
  · exact ⟨[], by simp⟩
  · split
    · exact ⟨s, rfl⟩
    · exact ⟨[], by simp⟩
theorem Wr.num_grows (r : Wr) (n : Int) : ∃ t, (r.num n).l = r.l ++ t := r.put_grows _ _
theorem Wr.txt_grows (r : Wr) (t : List UInt8) : ∃ s, (r.txt t).l = r.l ++ s := r.put_grows _ _
theorem Wr.nums_grows (r : Wr) (x : OpR) (K : Nat) : ∀ i, ∃ t, (r.nums x K i).l = r.l ++ t
  | 0 => ⟨[], by simp [Wr.nums]⟩
  | i + 1 => by
    obtain ⟨t, ht⟩ := r.nums_grows x K i
    unfold Wr.nums
    split
    · obtain ⟨s, hs⟩ := Wr.num_grows (r.nums x K i) (x.numA (2 + i))
      exact ⟨t ++ s, by rw [hs, ht, List.append_assoc]⟩
    · exact ⟨t, ht⟩
theorem Wr.txts_grows (r : Wr) (x : OpR) (K : Nat) : ∀ i, ∃ t, (r.txts x K i).l = r.l ++ t
  | 0 => ⟨[], by simp [Wr.txts]⟩
  | i + 1 => by
    obtain ⟨t, ht⟩ := r.txts_grows x K i
    unfold Wr.txts
    split
    · obtain ⟨s, hs⟩ := Wr.txt_grows (r.txts x K i) (x.textA (6 + i))
      exact ⟨t ++ s, by rw [hs, ht, List.append_assoc]⟩
    · exact ⟨t, ht⟩
theorem Wr.op_grows (r : Wr) (x : OpR) : ∃ t, (r.op x).l = r.l ++ t := by
  unfold Wr.op
  split
  · unfold Wr.body
    obtain ⟨a, ha⟩ := Wr.num_grows r x.k
    obtain ⟨c, hc⟩ := Wr.num_grows (r.num x.k) x.p
    obtain ⟨d, hd⟩ := Wr.nums_grows ((r.num x.k).num x.p) x x.k.toNat 4
    obtain ⟨e, he⟩ := Wr.txts_grows (((r.num x.k).num x.p).nums x x.k.toNat 4) x x.k.toNat 2
    exact ⟨a ++ (c ++ (d ++ e)), by rw [he, hd, hc, ha]; simp⟩
  · unfold Wr.fail
    split
    · exact ⟨[], by simp⟩
    · exact ⟨[], by simp⟩
theorem fold_grows (l : List OpR) : ∀ r : Wr, ∃ t, (l.foldl Wr.op r).l = r.l ++ t := by
  induction l with
  | nil => intro r; exact ⟨[], by simp⟩
  | cons x l ih =>
    intro r
    obtain ⟨a, ha⟩ := ih (r.op x)
    obtain ⟨c, hc⟩ := r.op_grows x
    exact ⟨c ++ a, by rw [List.foldl_cons, ha, hc]; simp⟩
theorem num_ne (n : Int) (h : 0 ≤ n ∧ n ≤ 1073741824) : (Wr.num ⟨[], 0⟩ n).l ≠ [] := by
  unfold Wr.num Wr.put
  simp only [ne_eq, not_true_eq_false, if_false, decide_eq_true h, if_true, List.nil_append]
  exact putM_ne n h
theorem bytesW_ne (l : List OpR) (h : l.length ≤ 400) : (bytesW l).l ≠ [] := by
  obtain ⟨t, ht⟩ := fold_grows l (Wr.num ⟨[], 0⟩ l.length)
  unfold bytesW
  rw [ht]
  have := num_ne (l.length : Int) (by omega)
  intro e
  exact this (List.append_eq_nil_iff.1 e).1

set_option maxHeartbeats 4000000 in
set_option maxRecDepth 100000 in
theorem obytes_any (A : Option Addr) (c : Nat) (l : List OpR) (hl : l.length ≤ 400) (w : World) (hd : Flds w) (ha : OpsAt w A l) (h0 : 0 < w.heap.size) :
    Calls Tryd.prog 42 #[.slice A l.length c] w fun e w' => e = .returned (.tuple #[.string (bs (bytesW l).out), .int .i64 (bytesW l).e]) ∧ Below w.heap.size w w' := by
  obtain ⟨N, hN⟩ : ∃ N, l.length = N := ⟨_, rfl⟩
  have HNN := Lib.hid hN
  obtain ⟨w1, hw1⟩ : ∃ W, w.alloc (.cells #[.pointer none, .slice none 0 0, .int .i64 0] 48) = W := ⟨_, rfl⟩
  have hb1 : Below w.heap.size w w1 := by rw [← hw1]; exact (Below.refl _ _).alloc (Nat.le_refl _) _
  have hs1 : w.heap.size < w1.heap.size := by rw [← hw1]; simp
  have HW1 : Hid (CwAt w.heap.size ⟨[], 0⟩ w1) := Lib.hid (by rw [← hw1]; exact cw_new w)
  have HB1 := Lib.hid hb1
  have HD1 := Lib.hid hd
  have HA := Lib.hid ha
  have HNum := Lib.hid (cwnum_any w.heap.size ⟨[], 0⟩ (N : Int) (by simp) w1 HW1.out)
  have HBW : Hid (bytesW l = l.foldl Wr.op (Wr.num ⟨[], 0⟩ (N : Int))) := Lib.hid (by unfold bytesW; rw [hN])
  obtain ⟨R0, hR0⟩ : ∃ R0, Wr.num ⟨[], 0⟩ (N : Int) = R0 := ⟨_, rfl⟩
  have HR0L : Hid (R0.l.length ≤ 5) := Lib.hid (by rw [← hR0]; have := Wr.num_len ⟨[], 0⟩ (N : Int); simpa using this)
  have HNE : Hid ((l.foldl Wr.op R0).l ≠ []) := Lib.hid (by rw [← hR0, ← HBW.out]; exact bytesW_ne l hl)
  rw [hR0] at HNum HBW
  rw [HBW.out]
  have hN4 : ¬ (400 : Int) < N := by omega
  have hNl : N ≤ 400 := by omega
  rw [hN]
  clear ha hd hl hN hb1 hR0
  go_enter Tryd.func42, Tryd.ntmps42
  go_wp2_with fail
  refine HNum.out.mono ?_
  rintro e w2 ⟨rfl, h1, h2⟩
  have HB2 : Hid (Below w.heap.size w w2) := Lib.hid (HB1.out.trans h2.below)
  have HW2 := Lib.hid h1
  clear h1 h2
  go_wp2_with fail
  go_loopg [6, 18] N (fun g t6 t18 wr => ∃ k : Nat, Hid (g = N - k ∧ k ≤ N) ∧ t18 = .int .i64 k ∧ Hid (CwAt w.heap.size ((l.take k).foldl Wr.op R0) wr ∧ Below w.heap.size w wr))
  case atStart => exact ⟨0, ⟨rfl, Nat.zero_le _⟩, rfl, HW2.out, HB2.out⟩
  case round =>
    obtain ⟨k, HG, rfl, HR⟩ := hrel
    have hk0 : (0 : Int) ≤ k := by omega
    by_cases hlt : k < N
    · have hlt' : (k : Int) < N := by omega
      have hkl : k < l.length := by rw [HNN.out]; exact hlt
      obtain ⟨a, rfl, hca⟩ := HA.out k hkl
      obtain ⟨d0, d1, d2, d3, d4, d5, d6, d7⟩ := hca.below HR.out.2
      obtain ⟨x, hx⟩ : ∃ x, l[k]'hkl = x := ⟨_, rfl⟩
      rw [hx] at d0 d1 d2 d3 d4 d5 d6 d7
      have HTK : Hid (((l.take k).foldl Wr.op R0).op x = (l.take (k + 1)).foldl Wr.op R0) := Lib.hid (by rw [List.take_succ_eq_append_getElem hkl, List.foldl_append, hx]; rfl)
      obtain ⟨R, hR⟩ : ∃ R, (l.take k).foldl Wr.op R0 = R := ⟨_, rfl⟩
      have HRL : Hid (R.l.length ≤ 500000) := Lib.hid (by
        have h3 := fold_len (l.take k) R0
        rw [hR] at h3
        have h4 := HR0L.out
        have h5 : (l.take k).length ≤ 400 := by rw [List.length_take]; omega
        omega)
      rw [hR] at HTK HR
      have HPUT : Hid (∀ w', Below wr.heap.size wr w' → Calls Tryd.prog 66 #[.pointer (some ⟨w.heap.size, 0, none⟩), .agg x.cells] w' fun v w'' => v = .returned (.tuple #[]) ∧ CwAt w.heap.size (R.op x) w'' ∧ Below w.heap.size w w'') := Lib.hid fun w' hb =>
        (oput_any w.heap.size R x HRL.out h0 w' ((HD1.out.below HR.out.2).below hb) (HR.out.1.below hb)).mono fun v w'' ⟨e, h1, h2⟩ => ⟨e, h1, (HR.out.2.trans (hb.mono HR.out.2.size)).trans h2.below⟩
      obtain ⟨kk, p, t, n, aa, mm, u, v⟩ := x
      simp only [OpR.cells] at HPUT
      clear hx hca hR
      go_wp2_with fail
      refine (HPUT.out _ ((Below.refl _ _).alloc (Nat.le_refl _) _)).mono ?_
      rintro e w3 ⟨rfl, h1, h2⟩
      have HQ := Lib.hid (And.intro h1 h2)
      clear h1 h2
      go_wp2_with fail
      go_roundg (N - (k + 1))
      case rel => exact ⟨k + 1, ⟨rfl, hlt⟩, by go_num, by rw [← HTK.out]; exact HQ.out⟩
      case measure => have := HG.out; omega
    · have hlt' : ¬ (k : Int) < N := by omega
      have htk : l.take k = l := List.take_of_length_le (by rw [HNN.out]; omega)
      rw [htk] at HR
      have HDONE := Lib.hid (cwdone_any w.heap.size (l.foldl Wr.op R0) (fun _ => HNE.out) wr HR.out.1)
      obtain ⟨R, hR⟩ : ∃ R, l.foldl Wr.op R0 = R := ⟨_, rfl⟩
      rw [hR] at HDONE
      have HRE := Lib.hid hR
      clear htk hR
      go_wp2_with fail
      refine HDONE.out.mono ?_
      rintro e w3 ⟨rfl, hb⟩
      have HQ := Lib.hid (HR.out.2.trans hb)
      clear hb
      go_wp2_with fail
      go_ret2
      rw [HRE.out]
      exact ⟨rfl, HQ.out⟩

theorem w_new (w : World) : WrAt (w.alloc (.cells #[.string ⟨#[]⟩, .int .i64 0] 54)) w.heap.size ⟨[], 0⟩ := World.alloc_heap_new w _
set_option maxHeartbeats 4000000 in
set_option maxRecDepth 100000 in
theorem rbytes34_any (A : Option Addr) (c : Nat) (l : List OpR) (hl : l.length ≤ 400) (hsz : ∀ x ∈ l, x.u.size ≤ 100000 ∧ x.v.size ≤ 100000) (w : World) (ha : OpsAt w A l) :
    Calls Tryd.prog 22 #[.slice A l.length c] w fun e w' => e = .returned (.tuple #[.string (bs (bytesW l).out), .int .i64 (bytesW l).e]) ∧ Below w.heap.size w w' := by
  obtain ⟨N, hN⟩ : ∃ N, l.length = N := ⟨_, rfl⟩
  have HNN := Lib.hid hN
  obtain ⟨w1, hw1⟩ : ∃ W, w.alloc (.cells #[.string ⟨#[]⟩, .int .i64 0] 54) = W := ⟨_, rfl⟩
  have hb1 : Below w.heap.size w w1 := by rw [← hw1]; exact (Below.refl _ _).alloc (Nat.le_refl _) _
  have hs1 : w.heap.size < w1.heap.size := by rw [← hw1]; simp
  have HW1 : Hid (WrAt w1 w.heap.size ⟨[], 0⟩) := Lib.hid (by rw [← hw1]; exact w_new w)
  have HB1 := Lib.hid hb1
  have HA := Lib.hid ha
  have HSZ := Lib.hid hsz
  have HNum := Lib.hid (wnum_any' w.heap.size ⟨[], 0⟩ (N : Int) (by simp) w1 HW1.out)
  have HBW : Hid (bytesW l = l.foldl Wr.op (Wr.num ⟨[], 0⟩ (N : Int))) := Lib.hid (by unfold bytesW; rw [hN])
  obtain ⟨R0, hR0⟩ : ∃ R0, Wr.num ⟨[], 0⟩ (N : Int) = R0 := ⟨_, rfl⟩
  have HR0L : Hid (R0.l.length ≤ 5) := Lib.hid (by rw [← hR0]; have := Wr.num_len ⟨[], 0⟩ (N : Int); simpa using this)
  rw [hR0] at HNum HBW
  rw [HBW.out]
  have hN4 : ¬ (400 : Int) < N := by omega
  have hNl : N ≤ 400 := by omega
  rw [hN]
  clear ha hl hN hb1 hR0 hsz
  go_enter Tryd.func22, Tryd.ntmps22
  go_wp2_with fail
  refine HNum.out.mono ?_
  rintro e w2 ⟨rfl, h1, h2⟩
  have HB2 : Hid (Below w.heap.size w w2) := Lib.hid (HB1.out.trans (h2.below (Nat.le_refl _) (Nat.le_of_lt hs1)))
  have HW2 := Lib.hid h1
  clear h1 h2
  go_wp2_with fail
  go_loopg [5] N (fun g t5 wr => ∃ k : Nat, Hid (g = N - k ∧ k ≤ N) ∧ t5 = .int .i64 k ∧ Hid (WrAt wr w.heap.size ((l.take k).foldl Wr.op R0) ∧ Below w.heap.size w wr))
  case atStart => exact ⟨0, ⟨rfl, Nat.zero_le _⟩, rfl, HW2.out, HB2.out⟩
  case round =>
    obtain ⟨k, HG, rfl, HR⟩ := hrel
    have hk0 : (0 : Int) ≤ k := by omega
    by_cases hlt : k < N
    · have hlt' : (k : Int) < N := by omega
      have hkl : k < l.length := by rw [HNN.out]; exact hlt
      obtain ⟨a, rfl, hca⟩ := HA.out k hkl
      obtain ⟨d0, d1, d2, d3, d4, d5, d6, d7⟩ := hca.below HR.out.2
      obtain ⟨x, hx⟩ : ∃ x, l[k]'hkl = x := ⟨_, rfl⟩
      rw [hx] at d0 d1 d2 d3 d4 d5 d6 d7
      have HTK : Hid (((l.take k).foldl Wr.op R0).op x = (l.take (k + 1)).foldl Wr.op R0) := Lib.hid (by rw [List.take_succ_eq_append_getElem hkl, List.foldl_append, hx]; rfl)
      obtain ⟨R, hR⟩ : ∃ R, (l.take k).foldl Wr.op R0 = R := ⟨_, rfl⟩
      have HRL : Hid (R.l.length ≤ 500000) := Lib.hid (by
        have h3 := fold_len (l.take k) R0
        rw [hR] at h3
        have h4 := HR0L.out
        have h5 : (l.take k).length ≤ 400 := by rw [List.length_take]; omega
        omega)
      rw [hR] at HTK HR
      have hsx := HSZ.out x (by rw [← hx]; exact List.getElem_mem _)
      have hlw : w.heap.size < wr.heap.size := by
        have h := HR.out.1
        rcases Nat.lt_or_ge w.heap.size wr.heap.size with h' | h'
        · exact h'
        · unfold WrAt WAt at h; simp [Array.getElem?_eq_none h'] at h
      have HPUT : Hid (Calls Tryd.prog 47 #[.pointer (some ⟨w.heap.size, 0, none⟩), .agg x.cells] wr fun v w'' => v = .returned (.tuple #[]) ∧ WrAt w'' w.heap.size (R.op x) ∧ Below w.heap.size w w'') := Lib.hid (
        (rput34_any w.heap.size R x hsx.1 hsx.2 HRL.out wr HR.out.1).mono fun v w'' ⟨e, h1, h2⟩ => ⟨e, h1, HR.out.2.trans (h2.below (Nat.le_refl _) (Nat.le_of_lt hlw))⟩)
      obtain ⟨kk, p, t, n, aa, mm, u, v⟩ := x
      simp only [OpR.cells] at HPUT
      clear hx hca hR hsx
      go_wp2_with fail
      refine HPUT.out.mono ?_
      rintro e w3 ⟨rfl, h1, h2⟩
      have HQ := Lib.hid (And.intro h1 h2)
      clear h1 h2
      go_wp2_with fail
      go_roundg (N - (k + 1))
      case rel => exact ⟨k + 1, ⟨rfl, hlt⟩, by go_num, by rw [← HTK.out]; exact HQ.out⟩
      case measure => have := HG.out; omega
    · have hlt' : ¬ (k : Int) < N := by omega
      have htk : l.take k = l := List.take_of_length_le (by rw [HNN.out]; omega)
      rw [htk] at HR
      have HDONE := Lib.hid (wdone_any' w.heap.size (l.foldl Wr.op R0) wr HR.out.1)
      obtain ⟨R, hR⟩ : ∃ R, l.foldl Wr.op R0 = R := ⟨_, rfl⟩
      rw [hR] at HDONE
      have HRE := Lib.hid hR
      clear htk hR
      go_wp2_with fail
      refine HDONE.out.mono ?_
      rintro e w3 ⟨rfl, hb⟩
      have HQ := Lib.hid (HR.out.2.trans (hb.mono HR.out.2.size))
      clear hb
      go_wp2_with fail
      go_ret2
      rw [HRE.out]
      exact ⟨rfl, HQ.out⟩
end Go.Proofs.YtjmfdacnaodfdaaDoor

namespace Go.Proofs.YtjmfdacnaodfdaaDoor
set_option linter.unusedVariables false
set_option linter.unusedSimpArgs false
open Go.RowKit

def zeroR : OpR := ⟨0, 0, 0, 0, 0, 0, ⟨#[]⟩, ⟨#[]⟩⟩
def OpR.setN (x : OpR) (i : Nat) (v : Int) : OpR :=
  if i = 1 then { x with p := v } else if i = 2 then { x with t := v } else if i = 3 then { x with n := v } else if i = 4 then { x with a := v } else { x with m := v }
def OpR.setT (x : OpR) (i : Nat) (v : List UInt8) : OpR := if i = 6 then { x with u := bs v } else { x with v := bs v }
theorem setN_cells (x : OpR) (i : Nat) (h0 : 1 ≤ i) (h5 : i ≤ 5) (v : Int) : x.cells.setIfInBounds i (.int .i64 v) = (x.setN i v).cells := by
  rcases (by omega : i = 1 ∨ i = 2 ∨ i = 3 ∨ i = 4 ∨ i = 5) with rfl | rfl | rfl | rfl | rfl <;> rfl
theorem setT_cells (x : OpR) (i : Nat) (h : i = 6 ∨ i = 7) (v : List UInt8) : x.cells.setIfInBounds i (.string (bs v)) = (x.setT i v).cells := by
  rcases h with rfl | rfl <;> rfl

/-- A number, or a text, into a field. -/
def gnum (s : OpR × Rd) (i : Nat) (most : Int) : OpR × Rd := (s.1.setN i (s.2.num most).1, (s.2.num most).2)
def gtxt (s : OpR × Rd) (i : Nat) : OpR × Rd := (s.1.setT i (s.2.txt 255).1, (s.2.txt 255).2)
def gif (c : Bool) (s t : OpR × Rd) : OpR × Rd := if c = true then t else s
def gnums (K : Nat) (s : OpR × Rd) : Nat → OpR × Rd
  | 0 => s
  | i + 1 => if fbit K (1 + i) = true then gnum (gnums K s i) (3 + i) 1073741824 else gnums K s i
def gtxts (K : Nat) (s : OpR × Rd) : Nat → OpR × Rd
  | 0 => s
  | i + 1 => if fbit K (4 + i) = true then gtxt (gtxts K s i) (6 + i) else gtxts K s i
def gto (K : Nat) (s : OpR × Rd) : OpR × Rd := if fbit K 0 = true then gnum s 2 63 else s
def takeB (K : Nat) (s : OpR × Rd) : OpR × Rd := gtxts K (gnums K (gto K (gnum s 1 63)) 3) 2
def Rd.op (r : Rd) : OpR × Rd :=
  if (r.num 1073741824).2.e ≠ 0 then (zeroR, (r.num 1073741824).2) else
  if 12 < (r.num 1073741824).1 then (zeroR, ⟨(r.num 1073741824).2.l, 15⟩) else
  takeB (r.num 1073741824).1.toNat ({ zeroR with k := (r.num 1073741824).1 }, (r.num 1073741824).2)

theorem Rd.num_stop (r : Rd) (h : r.e ≠ 0) (m : Int) : r.num m = (0, r) := by unfold Rd.num; rw [if_pos h]
theorem Rd.txt_stop (r : Rd) (h : r.e ≠ 0) (m : Int) : r.txt m = ([], r) := by unfold Rd.txt; rw [if_pos h]
theorem Rd.fail_zero (r : Rd) (h : r.e = 0) (f : Int) : r.fail f = ⟨r.l, f⟩ := by unfold Rd.fail; rw [if_pos h]
theorem Rd.num_nat (r : Rd) (m : Int) : ∃ n : Nat, (r.num m).1 = n ∧ n ≤ 1073741824 := by
  unfold Rd.num
  split
  · exact ⟨0, rfl, by omega⟩
  · split
    · exact ⟨0, rfl, by omega⟩
    · obtain ⟨N, K, e, h, h1, _⟩ := takeM_shape r.l
      exact ⟨N, by rw [h], h1⟩
theorem Rd.num_len (r : Rd) (m : Int) : (r.num m).2.l.length ≤ r.l.length := by
  unfold Rd.num
  split
  · exact Nat.le_refl _
  · split
    · exact Nat.le_refl _
    · simp
theorem Rd.txt_len (r : Rd) (m : Int) : (r.txt m).2.l.length ≤ r.l.length := by
  unfold Rd.txt
  split
  · exact Nat.le_refl _
  · split
    · exact Nat.le_refl _
    · split
      · exact Nat.le_refl _
      · simp only [List.length_drop]; omega

/-- Where a take stands: the reader at b, the operation's box, the result's. -/
structure TkS (T : TypeId) (b rb xb B : Nat) (w0 : World) (s : OpR × Rd) (w : World) : Prop where
  rd : RdAt T w b s.2
  kept : KeptBut b w0 w
  box : OpBox w xb s.1
  ret : OpBox w rb zeroR
  flds : Flds w
  len : s.2.l.length ≤ B
theorem OpBox.set {w : World} {b : Nat} {x y : OpR} (h : OpBox w b x) (i : Nat) (v : Value) (hy : x.cells.setIfInBounds i v = y.cells) : OpBox (w.setCell ⟨b, i, none⟩ v) b y := by
  unfold OpBox
  rw [Go.Joins.block_setCell h, hy]
theorem OpBox.frozen {w : World} {b : Nat} {x : OpR} (h : OpBox w b x) :
    w.frozen? ⟨b, 0, none⟩ = false ∧ w.frozen? ⟨b, 1, none⟩ = false ∧ w.frozen? ⟨b, 2, none⟩ = false ∧ w.frozen? ⟨b, 3, none⟩ = false ∧ w.frozen? ⟨b, 4, none⟩ = false ∧ w.frozen? ⟨b, 5, none⟩ = false ∧ w.frozen? ⟨b, 6, none⟩ = false ∧ w.frozen? ⟨b, 7, none⟩ = false := by
  refine ⟨?_, ?_, ?_, ?_, ?_, ?_, ?_, ?_⟩ <;> exact Lib.frozen_of_heap h _
theorem heap_set_ne {w : World} {p : Addr} {v : Value} {k : Nat} (h : k ≠ p.block) : (w.setCell p v).heap[k]? = w.heap[k]? := Go.heap_setCell_other _ _ _ _ h
theorem OpBox.set_ne {w : World} {b : Nat} {x : OpR} (h : OpBox w b x) {p : Addr} (hp : b ≠ p.block) (v : Value) : OpBox (w.setCell p v) b x := by
  unfold OpBox
  rw [heap_set_ne hp]
  exact h
theorem RdAt.set_ne {T : TypeId} {w : World} {b : Nat} {r : Rd} (h : RdAt T w b r) {p : Addr} (hp : b ≠ p.block) (v : Value) : RdAt T (w.setCell p v) b r := by
  unfold RdAt RAt
  rw [heap_set_ne hp]
  exact h
theorem KeptBut.set_new {b : Nat} {w0 w : World} (h : KeptBut b w0 w) {p : Addr} (hp : w0.heap.size ≤ p.block) (v : Value) : KeptBut b w0 (w.setCell p v) :=
  ⟨h.os, h.tape, h.output, by simpa using h.size, fun k hk hne => (heap_set_ne (by omega)).trans (h.block k hk hne)⟩
theorem TkS.setV {T : TypeId} {b rb xb B : Nat} {w0 : World} {x y : OpR} {r : Rd} {w : World} (h : TkS T b rb xb B w0 (x, r) w) (hxb : xb ≠ b) (hxr : xb ≠ rb) (hx0 : w0.heap.size ≤ xb) (h00 : 0 < w0.heap.size) (i : Nat) (v : Value) (hy : x.cells.setIfInBounds i v = y.cells) :
    TkS T b rb xb B w0 (y, r) (w.setCell ⟨xb, i, none⟩ v) :=
  ⟨h.rd.set_ne (fun e => hxb e.symm) _, h.kept.set_new hx0 _, h.box.set i _ hy, h.ret.set_ne (fun e => hxr e.symm) _, h.flds.of_block (heap_set_ne (by show 0 ≠ xb; omega)), h.len⟩
theorem TkS.setN {T : TypeId} {b rb xb B : Nat} {w0 : World} {x : OpR} {r : Rd} {w : World} (h : TkS T b rb xb B w0 (x, r) w) (hxb : xb ≠ b) (hxr : xb ≠ rb) (hx0 : w0.heap.size ≤ xb) (h00 : 0 < w0.heap.size) (i : Nat) (h0 : 1 ≤ i) (h5 : i ≤ 5) (v : Int) :
    TkS T b rb xb B w0 (x.setN i v, r) (w.setCell ⟨xb, i, none⟩ (.int .i64 v)) := h.setV hxb hxr hx0 h00 i _ (setN_cells x i h0 h5 v)
theorem TkS.setT {T : TypeId} {b rb xb B : Nat} {w0 : World} {x : OpR} {r : Rd} {w : World} (h : TkS T b rb xb B w0 (x, r) w) (hxb : xb ≠ b) (hxr : xb ≠ rb) (hx0 : w0.heap.size ≤ xb) (h00 : 0 < w0.heap.size) (i : Nat) (hi : i = 6 ∨ i = 7) (v : List UInt8) :
    TkS T b rb xb B w0 (x.setT i v, r) (w.setCell ⟨xb, i, none⟩ (.string (bs v))) := h.setV hxb hxr hx0 h00 i _ (setT_cells x i hi v)
theorem TkS.step {T : TypeId} {b rb xb B : Nat} {w0 : World} {x : OpR} {r r' : Rd} {w w' : World} (h : TkS T b rb xb B w0 (x, r) w) (hxb : xb ≠ b) (hrb : rb ≠ b) (hb0 : 0 < b) (h1 : RdAt T w' b r') (h2 : KeptBut b w w') (hl : r'.l.length ≤ r.l.length) : TkS T b rb xb B w0 (x, r') w' :=
  ⟨h1, h.kept.trans h2, h.box.keptBut h2 hxb, h.ret.keptBut h2 hrb, h.flds.of_block (h2.block 0 (Nat.lt_of_le_of_lt (Nat.zero_le _) h.box.lt) (by omega)), Nat.le_trans hl h.len⟩
theorem TkS.cnum {b rb xb B : Nat} {w0 : World} {x : OpR} {r : Rd} {w : World} (h : TkS 88 b rb xb B w0 (x, r) w) (hxb : xb ≠ b) (hrb : rb ≠ b) (hb0 : 0 < b) (most : Int) :
    Calls Tryd.prog 31 #[.pointer (some ⟨b, 0, none⟩), .int .i64 most] w fun v w' => v = .returned (.int .i64 (r.num most).1) ∧ TkS 88 b rb xb B w0 (x, (r.num most).2) w' :=
  (cnum_any b r most w h.rd).mono fun v w' ⟨e, h1, h2⟩ => ⟨e, h.step hxb hrb hb0 h1 h2 (r.num_len most)⟩
theorem TkS.ctxt {b rb xb B : Nat} {w0 : World} {x : OpR} {r : Rd} {w : World} (h : TkS 88 b rb xb B w0 (x, r) w) (hxb : xb ≠ b) (hrb : rb ≠ b) (hb0 : 0 < b) (hB : B ≤ 9223372036854775807) (most : Int) :
    Calls Tryd.prog 58 #[.pointer (some ⟨b, 0, none⟩), .int .i64 most] w fun v w' => v = .returned (.string (bs (r.txt most).1)) ∧ TkS 88 b rb xb B w0 (x, (r.txt most).2) w' :=
  (ctxt_any b r (Nat.le_trans h.len hB) most w h.rd).mono fun v w' ⟨e, h1, h2⟩ => ⟨e, h.step hxb hrb hb0 h1 h2 (r.txt_len most)⟩
theorem TkS.rnum {b rb xb B : Nat} {w0 : World} {x : OpR} {r : Rd} {w : World} (h : TkS 73 b rb xb B w0 (x, r) w) (hxb : xb ≠ b) (hrb : rb ≠ b) (hb0 : 0 < b) (most : Int) :
    Calls Tryd.prog 36 #[.pointer (some ⟨b, 0, none⟩), .int .i64 most] w fun v w' => v = .returned (.int .i64 (r.num most).1) ∧ TkS 73 b rb xb B w0 (x, (r.num most).2) w' :=
  (rnum_any' b r most w h.rd).mono fun v w' ⟨e, h1, h2⟩ => ⟨e, h.step hxb hrb hb0 h1 h2 (r.num_len most)⟩
theorem TkS.rtxt {b rb xb B : Nat} {w0 : World} {x : OpR} {r : Rd} {w : World} (h : TkS 73 b rb xb B w0 (x, r) w) (hxb : xb ≠ b) (hrb : rb ≠ b) (hb0 : 0 < b) (most : Int) :
    Calls Tryd.prog 37 #[.pointer (some ⟨b, 0, none⟩), .int .i64 most] w fun v w' => v = .returned (.string (bs (r.txt most).1)) ∧ TkS 73 b rb xb B w0 (x, (r.txt most).2) w' :=
  (rtxt_any' b r most w h.rd).mono fun v w' ⟨e, h1, h2⟩ => ⟨e, h.step hxb hrb hb0 h1 h2 (r.txt_len most)⟩
/-- An operation laid over another one's box. -/
def put8 (w : World) (g : Nat) (k p t n a m : Int) (u v : ByteArray) : World := ((((((((w.setCell ⟨g, 0, none⟩ (.int .i64 k)).setCell ⟨g, 1, none⟩ (.int .i64 p)).setCell ⟨g, 2, none⟩ (.int .i64 t)).setCell ⟨g, 3, none⟩ (.int .i64 n)).setCell ⟨g, 4, none⟩ (.int .i64 a)).setCell ⟨g, 5, none⟩ (.int .i64 m)).setCell ⟨g, 6, none⟩ (.string u)).setCell ⟨g, 7, none⟩ (.string v))
theorem put8_box {w : World} {g : Nat} {y : OpR} (h : OpBox w g y) (k p t n a m : Int) (u v : ByteArray) : OpBox (put8 w g k p t n a m u v) g ⟨k, p, t, n, a, m, u, v⟩ := by
  unfold put8
  have h0 := h.set (y := { y with k := k }) 0 (.int .i64 k) rfl
  have h1 := h0.set (y := { y with k := k, p := p }) 1 (.int .i64 p) rfl
  have h2 := h1.set (y := { y with k := k, p := p, t := t }) 2 (.int .i64 t) rfl
  have h3 := h2.set (y := { y with k := k, p := p, t := t, n := n }) 3 (.int .i64 n) rfl
  have h4 := h3.set (y := { y with k := k, p := p, t := t, n := n, a := a }) 4 (.int .i64 a) rfl
  have h5 := h4.set (y := { y with k := k, p := p, t := t, n := n, a := a, m := m }) 5 (.int .i64 m) rfl
  have h6 := h5.set (y := ⟨k, p, t, n, a, m, u, y.v⟩) 6 (.string u) rfl
  exact h6.set (y := ⟨k, p, t, n, a, m, u, v⟩) 7 (.string v) rfl
theorem put8_heap {w : World} {g i : Nat} (k p t n a m : Int) (u v : ByteArray) (h : i ≠ g) : (put8 w g k p t n a m u v).heap[i]? = w.heap[i]? := by
  unfold put8
  simp only [heap_set_ne (p := ⟨g, _, none⟩) h]
theorem put8_fin {T : TypeId} {b g : Nat} {w0 w : World} {y : OpR} {r : Rd} (hr : RdAt T w b r) (hk : KeptBut b w0 w) (hy : OpBox w g y) (hb : b ≠ g) (hg : w0.heap.size ≤ g) (k p t n a m : Int) (u v : ByteArray) :
    OpBox (put8 w g k p t n a m u v) g ⟨k, p, t, n, a, m, u, v⟩ ∧ RdAt T (put8 w g k p t n a m u v) b r ∧ KeptBut b w0 (put8 w g k p t n a m u v) := by
  refine ⟨put8_box hy k p t n a m u v, ?_, ?_⟩
  · unfold RdAt RAt
    rw [put8_heap _ _ _ _ _ _ _ _ hb]
    exact hr
  · unfold put8
    exact (((((((hk.set_new (p := ⟨g, 0, none⟩) hg _).set_new (p := ⟨g, 1, none⟩) hg _).set_new (p := ⟨g, 2, none⟩) hg _).set_new (p := ⟨g, 3, none⟩) hg _).set_new (p := ⟨g, 4, none⟩) hg _).set_new (p := ⟨g, 5, none⟩) hg _).set_new (p := ⟨g, 6, none⟩) hg _).set_new (p := ⟨g, 7, none⟩) hg _
end Go.Proofs.YtjmfdacnaodfdaaDoor
