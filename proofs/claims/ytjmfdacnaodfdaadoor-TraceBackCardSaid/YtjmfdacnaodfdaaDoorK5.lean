/- package hearsayref34: take. -/
import Derived.Test.YtjmfdacnaodfdaaDoorK4
namespace Go.Proofs.YtjmfdacnaodfdaaDoor
set_option linter.unusedVariables false
set_option linter.unusedSimpArgs false
open Go.RowKit

/-- What a take of the document's comes to. -/
def RTakePost (b : Nat) (s : OpR × Rd) (w : World) (v : Ending) (w' : World) : Prop := ∃ y : OpR, v = .returned (.agg y.cells) ∧ (s.2.e = 0 → y = s.1) ∧ RdAt 73 w' b s.2 ∧ KeptBut b w w'
theorem size_Op : (Tryd.prog.info? 30).map (·.size) = some 8 := by kernel_rfl

set_option maxHeartbeats 4000000 in
set_option maxRecDepth 100000 in
theorem rtake34_0 (b B : Nat) (r r1 : Rd) (he : r1.e = 0) (hB : r.l.length ≤ B) (hn : (r.num 1073741824).1 = 0) (hr1 : (r.num 1073741824).2 = r1) (hb0 : 0 < b) (w : World) (hd : Flds w) (h : RdAt 73 w b r) :
    Calls Tryd.prog 62 #[.pointer (some ⟨b, 0, none⟩)] w (RTakePost b (takeB 0 (({ zeroR with k := 0 } : OpR), r1)) w) := by
  have hlt := h.lt
  obtain ⟨w1, hw1⟩ : ∃ W, w.alloc (.cells zeroR.cells 30) = W := ⟨_, rfl⟩
  have hb1 : Below w.heap.size w w1 := by rw [← hw1]; exact (Below.refl _ _).alloc (Nat.le_refl _) _
  have HRB : Hid (OpBox w1 w.heap.size zeroR) := Lib.hid (by rw [← hw1]; exact World.alloc_heap_new _ _)
  have HN := Lib.hid (rnum_any' b r 1073741824 w1 (h.below hb1))
  have HB1 := Lib.hid hb1
  have HD1 := Lib.hid (hd.below hb1)
  have HSZ1 : Hid (w.heap.size + 1 ≤ w1.heap.size) := Lib.hid (by rw [← hw1]; simp)
  have HL := Lib.hid (Nat.le_trans (r.num_len 1073741824) hB)
  rw [hn, hr1] at HN
  rw [hr1] at HL
  simp only [zeroR, OpR.cells] at hw1
  have hrne : w.heap.size ≠ b := by omega
  obtain ⟨V0, hV0⟩ : ∃ V, (r1.num 63).1 = V := ⟨_, rfl⟩
  obtain ⟨q0, hq0⟩ : ∃ q, (r1.num 63).2 = q := ⟨_, rfl⟩
  have HV0 := Lib.hid (And.intro hV0 hq0)
  obtain ⟨LV1, hLV1⟩ : ∃ V, (q0.txt 255).1 = V := ⟨_, rfl⟩
  obtain ⟨V1, hV1⟩ : ∃ V, bs LV1 = V := ⟨_, rfl⟩
  obtain ⟨q1, hq1⟩ : ∃ q, (q0.txt 255).2 = q := ⟨_, rfl⟩
  have HV1 := Lib.hid (And.intro (And.intro hLV1 hV1) hq1)
  obtain ⟨LV2, hLV2⟩ : ∃ V, (q1.txt 255).1 = V := ⟨_, rfl⟩
  obtain ⟨V2, hV2⟩ : ∃ V, bs LV2 = V := ⟨_, rfl⟩
  obtain ⟨q2, hq2⟩ : ∃ q, (q1.txt 255).2 = q := ⟨_, rfl⟩
  have HV2 := Lib.hid (And.intro (And.intro hLV2 hV2) hq2)
  have f0 : fbit 0 0 = false := by decide +kernel
  have f1 : fbit 0 1 = false := by decide +kernel
  have f2 : fbit 0 2 = false := by decide +kernel
  have f3 : fbit 0 3 = false := by decide +kernel
  have f4 : fbit 0 4 = true := by decide +kernel
  have f5 : fbit 0 5 = true := by decide +kernel
  have HEQ : Hid (takeB 0 (({ zeroR with k := 0 } : OpR), r1) = ((⟨0, V0, 0, 0, 0, 0, V1, V2⟩ : OpR), q2)) := Lib.hid (by
    simp only [takeB, gto, gnums, gtxts, gnum, gtxt, Nat.add_zero, Nat.reduceAdd, f0, f1, f2, f3, f4, f5, if_true, if_false, Bool.false_eq_true, hV0, hq0, hLV1, hV1, hq1, hLV2, hV2, hq2]
    try rfl
    try (simp only [OpR.setN, OpR.setT, Nat.reduceEqDiff, if_true, if_false, hV0, hq0, hLV1, hV1, hq1, hLV2, hV2, hq2]; rfl))
  rw [HEQ.out]
  clear f0 f1 f2 f3 f4 f5
  clear h hd hb1 hn hr1 hV0 hq0 hLV1 hV1 hq1 hLV2 hV2 hq2
  go_enter Tryd.func62, Tryd.ntmps62
  go_wp2_with fail
  refine HN.out.mono ?_
  rintro e w2 ⟨rfl, h1, h2⟩
  have HQ := Lib.hid (And.intro h1 h2)
  have HRet := Lib.hid (HRB.out.keptBut h2 hrne)
  have HD2 : Hid (Flds w2) := Lib.hid (HD1.out.of_block (h2.block 0 (Nat.lt_of_le_of_lt (Nat.zero_le _) (Nat.lt_of_lt_of_le hlt HB1.out.size)) (by omega)))
  have hsz2 : w.heap.size + 1 ≤ w2.heap.size := Nat.le_trans HSZ1.out h2.size
  have y1 := h1.cells.2.1
  have hblt := h1.lt
  clear h1 h2 hw1
  have hb3 : Below w2.heap.size w2 (w2.alloc (.cells #[.int .i64 0, .int .i64 0, .int .i64 0, .int .i64 0, .int .i64 0, .int .i64 0, .string ⟨#[]⟩, .string ⟨#[]⟩] 30)) := (Below.refl _ _).alloc (Nat.le_refl _) _
  have hbox : OpBox (w2.alloc (.cells #[.int .i64 0, .int .i64 0, .int .i64 0, .int .i64 0, .int .i64 0, .int .i64 0, .string ⟨#[]⟩, .string ⟨#[]⟩] 30)) w2.heap.size ⟨0, 0, 0, 0, 0, 0, ⟨#[]⟩, ⟨#[]⟩⟩ := World.alloc_heap_new _ _
  have HRet3 := Lib.hid (HRet.out.below hb3)
  have hxb : w2.heap.size ≠ b := by omega
  have hxr : w2.heap.size ≠ w.heap.size := by omega
  have hxw : w.heap.size ≤ w2.heap.size := by omega
  have HX := Lib.hid (And.intro hxb (And.intro hxr hxw))
  have HT : Hid (TkS 73 b w.heap.size w2.heap.size B w (⟨0, 0, 0, 0, 0, 0, ⟨#[]⟩, ⟨#[]⟩⟩, r1) (w2.alloc (.cells #[.int .i64 0, .int .i64 0, .int .i64 0, .int .i64 0, .int .i64 0, .int .i64 0, .string ⟨#[]⟩, .string ⟨#[]⟩] 30))) := Lib.hid ⟨HQ.out.1.below hb3, (KeptBut.of_below HB1.out).trans (HQ.out.2.trans (KeptBut.of_below hb3)), hbox, HRet3.out, HD2.out.below hb3, HL.out⟩
  have x1 := HT.out.rd.cells.2.1
  simp only at x1
  clear hb3 hbox hxb hxr hxw y1
  go_wp2_with fail
  refine (HT.out.rnum HX.out.1 hrne hb0 63).mono ?_
  rintro e w5 ⟨rfl, hs⟩
  rw [HV0.out.1]
  rw [HV0.out.2] at hs
  have z := hs.box.frozen
  obtain ⟨z0, z1, z2, z3, z4, z5, z6, z7⟩ := z
  obtain ⟨k0, k1, k2, k3, k4, k5, k6, k7⟩ := hs.box.cells
  simp only at k0 k1 k2 k3 k4 k5 k6 k7
  obtain ⟨W5, hW5⟩ : ∃ W, w5.setCell ⟨w2.heap.size, 1, none⟩ (.int .i64 V0) = W := ⟨_, rfl⟩
  have HS5 : Hid (TkS 73 b w.heap.size w2.heap.size B w ((⟨0, V0, 0, 0, 0, 0, ⟨#[]⟩, ⟨#[]⟩⟩ : OpR), q0) W5) := Lib.hid (by rw [← hW5]; exact hs.setV HX.out.1 HX.out.2.1 HX.out.2.2 (by omega) 1 _ rfl)
  obtain ⟨d0, d1, d2, d3, d4, d5, d6, d7⟩ := HS5.out.box.cells
  simp only at d0 d1 d2 d3 d4 d5 d6 d7
  clear hs  x1
  go_wp2_with fail
  refine (HS5.out.rtxt HX.out.1 hrne hb0 255).mono ?_
  rintro e w6 ⟨rfl, hs⟩
  rw [HV1.out.1.1, HV1.out.1.2]
  rw [HV1.out.2] at hs
  have z := hs.box.frozen
  obtain ⟨z0, z1, z2, z3, z4, z5, z6, z7⟩ := z
  obtain ⟨k0, k1, k2, k3, k4, k5, k6, k7⟩ := hs.box.cells
  simp only at k0 k1 k2 k3 k4 k5 k6 k7
  obtain ⟨W6, hW6⟩ : ∃ W, w6.setCell ⟨w2.heap.size, 6, none⟩ (.string V1) = W := ⟨_, rfl⟩
  have HS6 : Hid (TkS 73 b w.heap.size w2.heap.size B w ((⟨0, V0, 0, 0, 0, 0, V1, ⟨#[]⟩⟩ : OpR), q1) W6) := Lib.hid (by rw [← hW6]; exact hs.setV HX.out.1 HX.out.2.1 HX.out.2.2 (by omega) 6 _ rfl)
  obtain ⟨c0, c1, c2, c3, c4, c5, c6, c7⟩ := HS6.out.box.cells
  simp only at c0 c1 c2 c3 c4 c5 c6 c7
  clear hs d0 d1 d2 d3 d4 d5 d6 d7 hW5
  go_wp2_with fail
  refine (HS6.out.rtxt HX.out.1 hrne hb0 255).mono ?_
  rintro e w7 ⟨rfl, hs⟩
  rw [HV2.out.1.1, HV2.out.1.2]
  rw [HV2.out.2] at hs
  have z := hs.box.frozen
  obtain ⟨z0, z1, z2, z3, z4, z5, z6, z7⟩ := z
  obtain ⟨k0, k1, k2, k3, k4, k5, k6, k7⟩ := hs.box.cells
  simp only at k0 k1 k2 k3 k4 k5 k6 k7
  obtain ⟨W7, hW7⟩ : ∃ W, w7.setCell ⟨w2.heap.size, 7, none⟩ (.string V2) = W := ⟨_, rfl⟩
  have HS7 : Hid (TkS 73 b w.heap.size w2.heap.size B w ((⟨0, V0, 0, 0, 0, 0, V1, V2⟩ : OpR), q2) W7) := Lib.hid (by rw [← hW7]; exact hs.setV HX.out.1 HX.out.2.1 HX.out.2.2 (by omega) 7 _ rfl)
  obtain ⟨d0, d1, d2, d3, d4, d5, d6, d7⟩ := HS7.out.box.cells
  simp only at d0 d1 d2 d3 d4 d5 d6 d7
  clear hs c0 c1 c2 c3 c4 c5 c6 c7 hW6
  obtain ⟨i0, i1, i2, i3, i4, i5, i6, i7⟩ := HS7.out.ret.cells
  obtain ⟨g0, g1, g2, g3, g4, g5, g6, g7⟩ := HS7.out.ret.frozen
  go_wp2_with fail
  have HFIN := put8_fin HS7.out.rd HS7.out.kept HS7.out.ret (fun e => hrne e.symm) (Nat.le_refl _) 0 V0 0 0 0 0 V1 V2
  refine bodyPost_ret (results_cell_row rfl _ _ w.heap.size 30 (OpR.cells ⟨0, V0, 0, 0, 0, 0, V1, V2⟩) (0, 0) _ rfl HFIN.1 Tryd.underlying30 rfl size_Op) rfl ?_
  exact ⟨_, rfl, fun _ => rfl, HFIN.2⟩

set_option maxHeartbeats 4000000 in
set_option maxRecDepth 100000 in
theorem rtake34_1 (b B : Nat) (r r1 : Rd) (he : r1.e = 0) (hB : r.l.length ≤ B) (hn : (r.num 1073741824).1 = 1) (hr1 : (r.num 1073741824).2 = r1) (hb0 : 0 < b) (w : World) (hd : Flds w) (h : RdAt 73 w b r) :
    Calls Tryd.prog 62 #[.pointer (some ⟨b, 0, none⟩)] w (RTakePost b (takeB 1 (({ zeroR with k := 1 } : OpR), r1)) w) := by
  have hlt := h.lt
  obtain ⟨w1, hw1⟩ : ∃ W, w.alloc (.cells zeroR.cells 30) = W := ⟨_, rfl⟩
  have hb1 : Below w.heap.size w w1 := by rw [← hw1]; exact (Below.refl _ _).alloc (Nat.le_refl _) _
  have HRB : Hid (OpBox w1 w.heap.size zeroR) := Lib.hid (by rw [← hw1]; exact World.alloc_heap_new _ _)
  have HN := Lib.hid (rnum_any' b r 1073741824 w1 (h.below hb1))
  have HB1 := Lib.hid hb1
  have HD1 := Lib.hid (hd.below hb1)
  have HSZ1 : Hid (w.heap.size + 1 ≤ w1.heap.size) := Lib.hid (by rw [← hw1]; simp)
  have HL := Lib.hid (Nat.le_trans (r.num_len 1073741824) hB)
  rw [hn, hr1] at HN
  rw [hr1] at HL
  simp only [zeroR, OpR.cells] at hw1
  have hrne : w.heap.size ≠ b := by omega
  obtain ⟨V0, hV0⟩ : ∃ V, (r1.num 63).1 = V := ⟨_, rfl⟩
  obtain ⟨q0, hq0⟩ : ∃ q, (r1.num 63).2 = q := ⟨_, rfl⟩
  have HV0 := Lib.hid (And.intro hV0 hq0)
  obtain ⟨LV1, hLV1⟩ : ∃ V, (q0.txt 255).1 = V := ⟨_, rfl⟩
  obtain ⟨V1, hV1⟩ : ∃ V, bs LV1 = V := ⟨_, rfl⟩
  obtain ⟨q1, hq1⟩ : ∃ q, (q0.txt 255).2 = q := ⟨_, rfl⟩
  have HV1 := Lib.hid (And.intro (And.intro hLV1 hV1) hq1)
  have f0 : fbit 1 0 = false := by decide +kernel
  have f1 : fbit 1 1 = false := by decide +kernel
  have f2 : fbit 1 2 = false := by decide +kernel
  have f3 : fbit 1 3 = false := by decide +kernel
  have f4 : fbit 1 4 = true := by decide +kernel
  have f5 : fbit 1 5 = false := by decide +kernel
  have HEQ : Hid (takeB 1 (({ zeroR with k := 1 } : OpR), r1) = ((⟨1, V0, 0, 0, 0, 0, V1, ⟨#[]⟩⟩ : OpR), q1)) := Lib.hid (by
    simp only [takeB, gto, gnums, gtxts, gnum, gtxt, Nat.add_zero, Nat.reduceAdd, f0, f1, f2, f3, f4, f5, if_true, if_false, Bool.false_eq_true, hV0, hq0, hLV1, hV1, hq1]
    try rfl
    try (simp only [OpR.setN, OpR.setT, Nat.reduceEqDiff, if_true, if_false, hV0, hq0, hLV1, hV1, hq1]; rfl))
  rw [HEQ.out]
  clear f0 f1 f2 f3 f4 f5
  clear h hd hb1 hn hr1 hV0 hq0 hLV1 hV1 hq1
  go_enter Tryd.func62, Tryd.ntmps62
  go_wp2_with fail
  refine HN.out.mono ?_
  rintro e w2 ⟨rfl, h1, h2⟩
  have HQ := Lib.hid (And.intro h1 h2)
  have HRet := Lib.hid (HRB.out.keptBut h2 hrne)
  have HD2 : Hid (Flds w2) := Lib.hid (HD1.out.of_block (h2.block 0 (Nat.lt_of_le_of_lt (Nat.zero_le _) (Nat.lt_of_lt_of_le hlt HB1.out.size)) (by omega)))
  have hsz2 : w.heap.size + 1 ≤ w2.heap.size := Nat.le_trans HSZ1.out h2.size
  have y1 := h1.cells.2.1
  have hblt := h1.lt
  clear h1 h2 hw1
  have hb3 : Below w2.heap.size w2 (w2.alloc (.cells #[.int .i64 1, .int .i64 0, .int .i64 0, .int .i64 0, .int .i64 0, .int .i64 0, .string ⟨#[]⟩, .string ⟨#[]⟩] 30)) := (Below.refl _ _).alloc (Nat.le_refl _) _
  have hbox : OpBox (w2.alloc (.cells #[.int .i64 1, .int .i64 0, .int .i64 0, .int .i64 0, .int .i64 0, .int .i64 0, .string ⟨#[]⟩, .string ⟨#[]⟩] 30)) w2.heap.size ⟨1, 0, 0, 0, 0, 0, ⟨#[]⟩, ⟨#[]⟩⟩ := World.alloc_heap_new _ _
  have HRet3 := Lib.hid (HRet.out.below hb3)
  have hxb : w2.heap.size ≠ b := by omega
  have hxr : w2.heap.size ≠ w.heap.size := by omega
  have hxw : w.heap.size ≤ w2.heap.size := by omega
  have HX := Lib.hid (And.intro hxb (And.intro hxr hxw))
  have HT : Hid (TkS 73 b w.heap.size w2.heap.size B w (⟨1, 0, 0, 0, 0, 0, ⟨#[]⟩, ⟨#[]⟩⟩, r1) (w2.alloc (.cells #[.int .i64 1, .int .i64 0, .int .i64 0, .int .i64 0, .int .i64 0, .int .i64 0, .string ⟨#[]⟩, .string ⟨#[]⟩] 30))) := Lib.hid ⟨HQ.out.1.below hb3, (KeptBut.of_below HB1.out).trans (HQ.out.2.trans (KeptBut.of_below hb3)), hbox, HRet3.out, HD2.out.below hb3, HL.out⟩
  have x1 := HT.out.rd.cells.2.1
  simp only at x1
  clear hb3 hbox hxb hxr hxw y1
  go_wp2_with fail
  refine (HT.out.rnum HX.out.1 hrne hb0 63).mono ?_
  rintro e w5 ⟨rfl, hs⟩
  rw [HV0.out.1]
  rw [HV0.out.2] at hs
  have z := hs.box.frozen
  obtain ⟨z0, z1, z2, z3, z4, z5, z6, z7⟩ := z
  obtain ⟨k0, k1, k2, k3, k4, k5, k6, k7⟩ := hs.box.cells
  simp only at k0 k1 k2 k3 k4 k5 k6 k7
  obtain ⟨W5, hW5⟩ : ∃ W, w5.setCell ⟨w2.heap.size, 1, none⟩ (.int .i64 V0) = W := ⟨_, rfl⟩
  have HS5 : Hid (TkS 73 b w.heap.size w2.heap.size B w ((⟨1, V0, 0, 0, 0, 0, ⟨#[]⟩, ⟨#[]⟩⟩ : OpR), q0) W5) := Lib.hid (by rw [← hW5]; exact hs.setV HX.out.1 HX.out.2.1 HX.out.2.2 (by omega) 1 _ rfl)
  obtain ⟨d0, d1, d2, d3, d4, d5, d6, d7⟩ := HS5.out.box.cells
  simp only at d0 d1 d2 d3 d4 d5 d6 d7
  clear hs  x1
  go_wp2_with fail
  refine (HS5.out.rtxt HX.out.1 hrne hb0 255).mono ?_
  rintro e w6 ⟨rfl, hs⟩
  rw [HV1.out.1.1, HV1.out.1.2]
  rw [HV1.out.2] at hs
  have z := hs.box.frozen
  obtain ⟨z0, z1, z2, z3, z4, z5, z6, z7⟩ := z
  obtain ⟨k0, k1, k2, k3, k4, k5, k6, k7⟩ := hs.box.cells
  simp only at k0 k1 k2 k3 k4 k5 k6 k7
  obtain ⟨W6, hW6⟩ : ∃ W, w6.setCell ⟨w2.heap.size, 6, none⟩ (.string V1) = W := ⟨_, rfl⟩
  have HS6 : Hid (TkS 73 b w.heap.size w2.heap.size B w ((⟨1, V0, 0, 0, 0, 0, V1, ⟨#[]⟩⟩ : OpR), q1) W6) := Lib.hid (by rw [← hW6]; exact hs.setV HX.out.1 HX.out.2.1 HX.out.2.2 (by omega) 6 _ rfl)
  obtain ⟨c0, c1, c2, c3, c4, c5, c6, c7⟩ := HS6.out.box.cells
  simp only at c0 c1 c2 c3 c4 c5 c6 c7
  clear hs d0 d1 d2 d3 d4 d5 d6 d7 hW5
  obtain ⟨i0, i1, i2, i3, i4, i5, i6, i7⟩ := HS6.out.ret.cells
  obtain ⟨g0, g1, g2, g3, g4, g5, g6, g7⟩ := HS6.out.ret.frozen
  go_wp2_with fail
  have HFIN := put8_fin HS6.out.rd HS6.out.kept HS6.out.ret (fun e => hrne e.symm) (Nat.le_refl _) 1 V0 0 0 0 0 V1 ⟨#[]⟩
  refine bodyPost_ret (results_cell_row rfl _ _ w.heap.size 30 (OpR.cells ⟨1, V0, 0, 0, 0, 0, V1, ⟨#[]⟩⟩) (0, 0) _ rfl HFIN.1 Tryd.underlying30 rfl size_Op) rfl ?_
  exact ⟨_, rfl, fun _ => rfl, HFIN.2⟩

set_option maxHeartbeats 4000000 in
set_option maxRecDepth 100000 in
theorem rtake34_2 (b B : Nat) (r r1 : Rd) (he : r1.e = 0) (hB : r.l.length ≤ B) (hn : (r.num 1073741824).1 = 2) (hr1 : (r.num 1073741824).2 = r1) (hb0 : 0 < b) (w : World) (hd : Flds w) (h : RdAt 73 w b r) :
    Calls Tryd.prog 62 #[.pointer (some ⟨b, 0, none⟩)] w (RTakePost b (takeB 2 (({ zeroR with k := 2 } : OpR), r1)) w) := by
  have hlt := h.lt
  obtain ⟨w1, hw1⟩ : ∃ W, w.alloc (.cells zeroR.cells 30) = W := ⟨_, rfl⟩
  have hb1 : Below w.heap.size w w1 := by rw [← hw1]; exact (Below.refl _ _).alloc (Nat.le_refl _) _
  have HRB : Hid (OpBox w1 w.heap.size zeroR) := Lib.hid (by rw [← hw1]; exact World.alloc_heap_new _ _)
  have HN := Lib.hid (rnum_any' b r 1073741824 w1 (h.below hb1))
  have HB1 := Lib.hid hb1
  have HD1 := Lib.hid (hd.below hb1)
  have HSZ1 : Hid (w.heap.size + 1 ≤ w1.heap.size) := Lib.hid (by rw [← hw1]; simp)
  have HL := Lib.hid (Nat.le_trans (r.num_len 1073741824) hB)
  rw [hn, hr1] at HN
  rw [hr1] at HL
  simp only [zeroR, OpR.cells] at hw1
  have hrne : w.heap.size ≠ b := by omega
  obtain ⟨V0, hV0⟩ : ∃ V, (r1.num 63).1 = V := ⟨_, rfl⟩
  obtain ⟨q0, hq0⟩ : ∃ q, (r1.num 63).2 = q := ⟨_, rfl⟩
  have HV0 := Lib.hid (And.intro hV0 hq0)
  obtain ⟨V1, hV1⟩ : ∃ V, (q0.num 1073741824).1 = V := ⟨_, rfl⟩
  obtain ⟨q1, hq1⟩ : ∃ q, (q0.num 1073741824).2 = q := ⟨_, rfl⟩
  have HV1 := Lib.hid (And.intro hV1 hq1)
  have f0 : fbit 2 0 = false := by decide +kernel
  have f1 : fbit 2 1 = true := by decide +kernel
  have f2 : fbit 2 2 = false := by decide +kernel
  have f3 : fbit 2 3 = false := by decide +kernel
  have f4 : fbit 2 4 = false := by decide +kernel
  have f5 : fbit 2 5 = false := by decide +kernel
  have HEQ : Hid (takeB 2 (({ zeroR with k := 2 } : OpR), r1) = ((⟨2, V0, 0, V1, 0, 0, ⟨#[]⟩, ⟨#[]⟩⟩ : OpR), q1)) := Lib.hid (by
    simp only [takeB, gto, gnums, gtxts, gnum, gtxt, Nat.add_zero, Nat.reduceAdd, f0, f1, f2, f3, f4, f5, if_true, if_false, Bool.false_eq_true, hV0, hq0, hV1, hq1]
    try rfl
    try (simp only [OpR.setN, OpR.setT, Nat.reduceEqDiff, if_true, if_false, hV0, hq0, hV1, hq1]; rfl))
  rw [HEQ.out]
  clear f0 f1 f2 f3 f4 f5
  clear h hd hb1 hn hr1 hV0 hq0 hV1 hq1
  go_enter Tryd.func62, Tryd.ntmps62
  go_wp2_with fail
  refine HN.out.mono ?_
  rintro e w2 ⟨rfl, h1, h2⟩
  have HQ := Lib.hid (And.intro h1 h2)
  have HRet := Lib.hid (HRB.out.keptBut h2 hrne)
  have HD2 : Hid (Flds w2) := Lib.hid (HD1.out.of_block (h2.block 0 (Nat.lt_of_le_of_lt (Nat.zero_le _) (Nat.lt_of_lt_of_le hlt HB1.out.size)) (by omega)))
  have hsz2 : w.heap.size + 1 ≤ w2.heap.size := Nat.le_trans HSZ1.out h2.size
  have y1 := h1.cells.2.1
  have hblt := h1.lt
  clear h1 h2 hw1
  have hb3 : Below w2.heap.size w2 (w2.alloc (.cells #[.int .i64 2, .int .i64 0, .int .i64 0, .int .i64 0, .int .i64 0, .int .i64 0, .string ⟨#[]⟩, .string ⟨#[]⟩] 30)) := (Below.refl _ _).alloc (Nat.le_refl _) _
  have hbox : OpBox (w2.alloc (.cells #[.int .i64 2, .int .i64 0, .int .i64 0, .int .i64 0, .int .i64 0, .int .i64 0, .string ⟨#[]⟩, .string ⟨#[]⟩] 30)) w2.heap.size ⟨2, 0, 0, 0, 0, 0, ⟨#[]⟩, ⟨#[]⟩⟩ := World.alloc_heap_new _ _
  have HRet3 := Lib.hid (HRet.out.below hb3)
  have hxb : w2.heap.size ≠ b := by omega
  have hxr : w2.heap.size ≠ w.heap.size := by omega
  have hxw : w.heap.size ≤ w2.heap.size := by omega
  have HX := Lib.hid (And.intro hxb (And.intro hxr hxw))
  have HT : Hid (TkS 73 b w.heap.size w2.heap.size B w (⟨2, 0, 0, 0, 0, 0, ⟨#[]⟩, ⟨#[]⟩⟩, r1) (w2.alloc (.cells #[.int .i64 2, .int .i64 0, .int .i64 0, .int .i64 0, .int .i64 0, .int .i64 0, .string ⟨#[]⟩, .string ⟨#[]⟩] 30))) := Lib.hid ⟨HQ.out.1.below hb3, (KeptBut.of_below HB1.out).trans (HQ.out.2.trans (KeptBut.of_below hb3)), hbox, HRet3.out, HD2.out.below hb3, HL.out⟩
  have x1 := HT.out.rd.cells.2.1
  simp only at x1
  clear hb3 hbox hxb hxr hxw y1
  go_wp2_with fail
  refine (HT.out.rnum HX.out.1 hrne hb0 63).mono ?_
  rintro e w5 ⟨rfl, hs⟩
  rw [HV0.out.1]
  rw [HV0.out.2] at hs
  have z := hs.box.frozen
  obtain ⟨z0, z1, z2, z3, z4, z5, z6, z7⟩ := z
  obtain ⟨k0, k1, k2, k3, k4, k5, k6, k7⟩ := hs.box.cells
  simp only at k0 k1 k2 k3 k4 k5 k6 k7
  obtain ⟨W5, hW5⟩ : ∃ W, w5.setCell ⟨w2.heap.size, 1, none⟩ (.int .i64 V0) = W := ⟨_, rfl⟩
  have HS5 : Hid (TkS 73 b w.heap.size w2.heap.size B w ((⟨2, V0, 0, 0, 0, 0, ⟨#[]⟩, ⟨#[]⟩⟩ : OpR), q0) W5) := Lib.hid (by rw [← hW5]; exact hs.setV HX.out.1 HX.out.2.1 HX.out.2.2 (by omega) 1 _ rfl)
  obtain ⟨d0, d1, d2, d3, d4, d5, d6, d7⟩ := HS5.out.box.cells
  simp only at d0 d1 d2 d3 d4 d5 d6 d7
  clear hs  x1
  go_wp2_with fail
  refine (HS5.out.rnum HX.out.1 hrne hb0 1073741824).mono ?_
  rintro e w6 ⟨rfl, hs⟩
  rw [HV1.out.1]
  rw [HV1.out.2] at hs
  have z := hs.box.frozen
  obtain ⟨z0, z1, z2, z3, z4, z5, z6, z7⟩ := z
  obtain ⟨k0, k1, k2, k3, k4, k5, k6, k7⟩ := hs.box.cells
  simp only at k0 k1 k2 k3 k4 k5 k6 k7
  obtain ⟨W6, hW6⟩ : ∃ W, w6.setCell ⟨w2.heap.size, 3, none⟩ (.int .i64 V1) = W := ⟨_, rfl⟩
  have HS6 : Hid (TkS 73 b w.heap.size w2.heap.size B w ((⟨2, V0, 0, V1, 0, 0, ⟨#[]⟩, ⟨#[]⟩⟩ : OpR), q1) W6) := Lib.hid (by rw [← hW6]; exact hs.setV HX.out.1 HX.out.2.1 HX.out.2.2 (by omega) 3 _ rfl)
  obtain ⟨c0, c1, c2, c3, c4, c5, c6, c7⟩ := HS6.out.box.cells
  simp only at c0 c1 c2 c3 c4 c5 c6 c7
  clear hs d0 d1 d2 d3 d4 d5 d6 d7 hW5
  obtain ⟨i0, i1, i2, i3, i4, i5, i6, i7⟩ := HS6.out.ret.cells
  obtain ⟨g0, g1, g2, g3, g4, g5, g6, g7⟩ := HS6.out.ret.frozen
  go_wp2_with fail
  have HFIN := put8_fin HS6.out.rd HS6.out.kept HS6.out.ret (fun e => hrne e.symm) (Nat.le_refl _) 2 V0 0 V1 0 0 ⟨#[]⟩ ⟨#[]⟩
  refine bodyPost_ret (results_cell_row rfl _ _ w.heap.size 30 (OpR.cells ⟨2, V0, 0, V1, 0, 0, ⟨#[]⟩, ⟨#[]⟩⟩) (0, 0) _ rfl HFIN.1 Tryd.underlying30 rfl size_Op) rfl ?_
  exact ⟨_, rfl, fun _ => rfl, HFIN.2⟩

set_option maxHeartbeats 4000000 in
set_option maxRecDepth 100000 in
theorem rtake34_3 (b B : Nat) (r r1 : Rd) (he : r1.e = 0) (hB : r.l.length ≤ B) (hn : (r.num 1073741824).1 = 3) (hr1 : (r.num 1073741824).2 = r1) (hb0 : 0 < b) (w : World) (hd : Flds w) (h : RdAt 73 w b r) :
    Calls Tryd.prog 62 #[.pointer (some ⟨b, 0, none⟩)] w (RTakePost b (takeB 3 (({ zeroR with k := 3 } : OpR), r1)) w) := by
  have hlt := h.lt
  obtain ⟨w1, hw1⟩ : ∃ W, w.alloc (.cells zeroR.cells 30) = W := ⟨_, rfl⟩
  have hb1 : Below w.heap.size w w1 := by rw [← hw1]; exact (Below.refl _ _).alloc (Nat.le_refl _) _
  have HRB : Hid (OpBox w1 w.heap.size zeroR) := Lib.hid (by rw [← hw1]; exact World.alloc_heap_new _ _)
  have HN := Lib.hid (rnum_any' b r 1073741824 w1 (h.below hb1))
  have HB1 := Lib.hid hb1
  have HD1 := Lib.hid (hd.below hb1)
  have HSZ1 : Hid (w.heap.size + 1 ≤ w1.heap.size) := Lib.hid (by rw [← hw1]; simp)
  have HL := Lib.hid (Nat.le_trans (r.num_len 1073741824) hB)
  rw [hn, hr1] at HN
  rw [hr1] at HL
  simp only [zeroR, OpR.cells] at hw1
  have hrne : w.heap.size ≠ b := by omega
  obtain ⟨V0, hV0⟩ : ∃ V, (r1.num 63).1 = V := ⟨_, rfl⟩
  obtain ⟨q0, hq0⟩ : ∃ q, (r1.num 63).2 = q := ⟨_, rfl⟩
  have HV0 := Lib.hid (And.intro hV0 hq0)
  obtain ⟨V1, hV1⟩ : ∃ V, (q0.num 1073741824).1 = V := ⟨_, rfl⟩
  obtain ⟨q1, hq1⟩ : ∃ q, (q0.num 1073741824).2 = q := ⟨_, rfl⟩
  have HV1 := Lib.hid (And.intro hV1 hq1)
  have f0 : fbit 3 0 = false := by decide +kernel
  have f1 : fbit 3 1 = true := by decide +kernel
  have f2 : fbit 3 2 = false := by decide +kernel
  have f3 : fbit 3 3 = false := by decide +kernel
  have f4 : fbit 3 4 = false := by decide +kernel
  have f5 : fbit 3 5 = false := by decide +kernel
  have HEQ : Hid (takeB 3 (({ zeroR with k := 3 } : OpR), r1) = ((⟨3, V0, 0, V1, 0, 0, ⟨#[]⟩, ⟨#[]⟩⟩ : OpR), q1)) := Lib.hid (by
    simp only [takeB, gto, gnums, gtxts, gnum, gtxt, Nat.add_zero, Nat.reduceAdd, f0, f1, f2, f3, f4, f5, if_true, if_false, Bool.false_eq_true, hV0, hq0, hV1, hq1]
    try rfl
    try (simp only [OpR.setN, OpR.setT, Nat.reduceEqDiff, if_true, if_false, hV0, hq0, hV1, hq1]; rfl))
  rw [HEQ.out]
  clear f0 f1 f2 f3 f4 f5
  clear h hd hb1 hn hr1 hV0 hq0 hV1 hq1
  go_enter Tryd.func62, Tryd.ntmps62
  go_wp2_with fail
  refine HN.out.mono ?_
  rintro e w2 ⟨rfl, h1, h2⟩
  have HQ := Lib.hid (And.intro h1 h2)
  have HRet := Lib.hid (HRB.out.keptBut h2 hrne)
  have HD2 : Hid (Flds w2) := Lib.hid (HD1.out.of_block (h2.block 0 (Nat.lt_of_le_of_lt (Nat.zero_le _) (Nat.lt_of_lt_of_le hlt HB1.out.size)) (by omega)))
  have hsz2 : w.heap.size + 1 ≤ w2.heap.size := Nat.le_trans HSZ1.out h2.size
  have y1 := h1.cells.2.1
  have hblt := h1.lt
  clear h1 h2 hw1
  have hb3 : Below w2.heap.size w2 (w2.alloc (.cells #[.int .i64 3, .int .i64 0, .int .i64 0, .int .i64 0, .int .i64 0, .int .i64 0, .string ⟨#[]⟩, .string ⟨#[]⟩] 30)) := (Below.refl _ _).alloc (Nat.le_refl _) _
  have hbox : OpBox (w2.alloc (.cells #[.int .i64 3, .int .i64 0, .int .i64 0, .int .i64 0, .int .i64 0, .int .i64 0, .string ⟨#[]⟩, .string ⟨#[]⟩] 30)) w2.heap.size ⟨3, 0, 0, 0, 0, 0, ⟨#[]⟩, ⟨#[]⟩⟩ := World.alloc_heap_new _ _
  have HRet3 := Lib.hid (HRet.out.below hb3)
  have hxb : w2.heap.size ≠ b := by omega
  have hxr : w2.heap.size ≠ w.heap.size := by omega
  have hxw : w.heap.size ≤ w2.heap.size := by omega
  have HX := Lib.hid (And.intro hxb (And.intro hxr hxw))
  have HT : Hid (TkS 73 b w.heap.size w2.heap.size B w (⟨3, 0, 0, 0, 0, 0, ⟨#[]⟩, ⟨#[]⟩⟩, r1) (w2.alloc (.cells #[.int .i64 3, .int .i64 0, .int .i64 0, .int .i64 0, .int .i64 0, .int .i64 0, .string ⟨#[]⟩, .string ⟨#[]⟩] 30))) := Lib.hid ⟨HQ.out.1.below hb3, (KeptBut.of_below HB1.out).trans (HQ.out.2.trans (KeptBut.of_below hb3)), hbox, HRet3.out, HD2.out.below hb3, HL.out⟩
  have x1 := HT.out.rd.cells.2.1
  simp only at x1
  clear hb3 hbox hxb hxr hxw y1
  go_wp2_with fail
  refine (HT.out.rnum HX.out.1 hrne hb0 63).mono ?_
  rintro e w5 ⟨rfl, hs⟩
  rw [HV0.out.1]
  rw [HV0.out.2] at hs
  have z := hs.box.frozen
  obtain ⟨z0, z1, z2, z3, z4, z5, z6, z7⟩ := z
  obtain ⟨k0, k1, k2, k3, k4, k5, k6, k7⟩ := hs.box.cells
  simp only at k0 k1 k2 k3 k4 k5 k6 k7
  obtain ⟨W5, hW5⟩ : ∃ W, w5.setCell ⟨w2.heap.size, 1, none⟩ (.int .i64 V0) = W := ⟨_, rfl⟩
  have HS5 : Hid (TkS 73 b w.heap.size w2.heap.size B w ((⟨3, V0, 0, 0, 0, 0, ⟨#[]⟩, ⟨#[]⟩⟩ : OpR), q0) W5) := Lib.hid (by rw [← hW5]; exact hs.setV HX.out.1 HX.out.2.1 HX.out.2.2 (by omega) 1 _ rfl)
  obtain ⟨d0, d1, d2, d3, d4, d5, d6, d7⟩ := HS5.out.box.cells
  simp only at d0 d1 d2 d3 d4 d5 d6 d7
  clear hs  x1
  go_wp2_with fail
  refine (HS5.out.rnum HX.out.1 hrne hb0 1073741824).mono ?_
  rintro e w6 ⟨rfl, hs⟩
  rw [HV1.out.1]
  rw [HV1.out.2] at hs
  have z := hs.box.frozen
  obtain ⟨z0, z1, z2, z3, z4, z5, z6, z7⟩ := z
  obtain ⟨k0, k1, k2, k3, k4, k5, k6, k7⟩ := hs.box.cells
  simp only at k0 k1 k2 k3 k4 k5 k6 k7
  obtain ⟨W6, hW6⟩ : ∃ W, w6.setCell ⟨w2.heap.size, 3, none⟩ (.int .i64 V1) = W := ⟨_, rfl⟩
  have HS6 : Hid (TkS 73 b w.heap.size w2.heap.size B w ((⟨3, V0, 0, V1, 0, 0, ⟨#[]⟩, ⟨#[]⟩⟩ : OpR), q1) W6) := Lib.hid (by rw [← hW6]; exact hs.setV HX.out.1 HX.out.2.1 HX.out.2.2 (by omega) 3 _ rfl)
  obtain ⟨c0, c1, c2, c3, c4, c5, c6, c7⟩ := HS6.out.box.cells
  simp only at c0 c1 c2 c3 c4 c5 c6 c7
  clear hs d0 d1 d2 d3 d4 d5 d6 d7 hW5
  obtain ⟨i0, i1, i2, i3, i4, i5, i6, i7⟩ := HS6.out.ret.cells
  obtain ⟨g0, g1, g2, g3, g4, g5, g6, g7⟩ := HS6.out.ret.frozen
  go_wp2_with fail
  have HFIN := put8_fin HS6.out.rd HS6.out.kept HS6.out.ret (fun e => hrne e.symm) (Nat.le_refl _) 3 V0 0 V1 0 0 ⟨#[]⟩ ⟨#[]⟩
  refine bodyPost_ret (results_cell_row rfl _ _ w.heap.size 30 (OpR.cells ⟨3, V0, 0, V1, 0, 0, ⟨#[]⟩, ⟨#[]⟩⟩) (0, 0) _ rfl HFIN.1 Tryd.underlying30 rfl size_Op) rfl ?_
  exact ⟨_, rfl, fun _ => rfl, HFIN.2⟩

set_option maxHeartbeats 4000000 in
set_option maxRecDepth 100000 in
theorem rtake34_4 (b B : Nat) (r r1 : Rd) (he : r1.e = 0) (hB : r.l.length ≤ B) (hn : (r.num 1073741824).1 = 4) (hr1 : (r.num 1073741824).2 = r1) (hb0 : 0 < b) (w : World) (hd : Flds w) (h : RdAt 73 w b r) :
    Calls Tryd.prog 62 #[.pointer (some ⟨b, 0, none⟩)] w (RTakePost b (takeB 4 (({ zeroR with k := 4 } : OpR), r1)) w) := by
  have hlt := h.lt
  obtain ⟨w1, hw1⟩ : ∃ W, w.alloc (.cells zeroR.cells 30) = W := ⟨_, rfl⟩
  have hb1 : Below w.heap.size w w1 := by rw [← hw1]; exact (Below.refl _ _).alloc (Nat.le_refl _) _
  have HRB : Hid (OpBox w1 w.heap.size zeroR) := Lib.hid (by rw [← hw1]; exact World.alloc_heap_new _ _)
  have HN := Lib.hid (rnum_any' b r 1073741824 w1 (h.below hb1))
  have HB1 := Lib.hid hb1
  have HD1 := Lib.hid (hd.below hb1)
  have HSZ1 : Hid (w.heap.size + 1 ≤ w1.heap.size) := Lib.hid (by rw [← hw1]; simp)
  have HL := Lib.hid (Nat.le_trans (r.num_len 1073741824) hB)
  rw [hn, hr1] at HN
  rw [hr1] at HL
  simp only [zeroR, OpR.cells] at hw1
  have hrne : w.heap.size ≠ b := by omega
  obtain ⟨V0, hV0⟩ : ∃ V, (r1.num 63).1 = V := ⟨_, rfl⟩
  obtain ⟨q0, hq0⟩ : ∃ q, (r1.num 63).2 = q := ⟨_, rfl⟩
  have HV0 := Lib.hid (And.intro hV0 hq0)
  obtain ⟨V1, hV1⟩ : ∃ V, (q0.num 63).1 = V := ⟨_, rfl⟩
  obtain ⟨q1, hq1⟩ : ∃ q, (q0.num 63).2 = q := ⟨_, rfl⟩
  have HV1 := Lib.hid (And.intro hV1 hq1)
  obtain ⟨V2, hV2⟩ : ∃ V, (q1.num 1073741824).1 = V := ⟨_, rfl⟩
  obtain ⟨q2, hq2⟩ : ∃ q, (q1.num 1073741824).2 = q := ⟨_, rfl⟩
  have HV2 := Lib.hid (And.intro hV2 hq2)
  have f0 : fbit 4 0 = true := by decide +kernel
  have f1 : fbit 4 1 = true := by decide +kernel
  have f2 : fbit 4 2 = false := by decide +kernel
  have f3 : fbit 4 3 = false := by decide +kernel
  have f4 : fbit 4 4 = false := by decide +kernel
  have f5 : fbit 4 5 = false := by decide +kernel
  have HEQ : Hid (takeB 4 (({ zeroR with k := 4 } : OpR), r1) = ((⟨4, V0, V1, V2, 0, 0, ⟨#[]⟩, ⟨#[]⟩⟩ : OpR), q2)) := Lib.hid (by
    simp only [takeB, gto, gnums, gtxts, gnum, gtxt, Nat.add_zero, Nat.reduceAdd, f0, f1, f2, f3, f4, f5, if_true, if_false, Bool.false_eq_true, hV0, hq0, hV1, hq1, hV2, hq2]
    try rfl
    try (simp only [OpR.setN, OpR.setT, Nat.reduceEqDiff, if_true, if_false, hV0, hq0, hV1, hq1, hV2, hq2]; rfl))
  rw [HEQ.out]
  clear f0 f1 f2 f3 f4 f5
  clear h hd hb1 hn hr1 hV0 hq0 hV1 hq1 hV2 hq2
  go_enter Tryd.func62, Tryd.ntmps62
  go_wp2_with fail
  refine HN.out.mono ?_
  rintro e w2 ⟨rfl, h1, h2⟩
  have HQ := Lib.hid (And.intro h1 h2)
  have HRet := Lib.hid (HRB.out.keptBut h2 hrne)
  have HD2 : Hid (Flds w2) := Lib.hid (HD1.out.of_block (h2.block 0 (Nat.lt_of_le_of_lt (Nat.zero_le _) (Nat.lt_of_lt_of_le hlt HB1.out.size)) (by omega)))
  have hsz2 : w.heap.size + 1 ≤ w2.heap.size := Nat.le_trans HSZ1.out h2.size
  have y1 := h1.cells.2.1
  have hblt := h1.lt
  clear h1 h2 hw1
  have hb3 : Below w2.heap.size w2 (w2.alloc (.cells #[.int .i64 4, .int .i64 0, .int .i64 0, .int .i64 0, .int .i64 0, .int .i64 0, .string ⟨#[]⟩, .string ⟨#[]⟩] 30)) := (Below.refl _ _).alloc (Nat.le_refl _) _
  have hbox : OpBox (w2.alloc (.cells #[.int .i64 4, .int .i64 0, .int .i64 0, .int .i64 0, .int .i64 0, .int .i64 0, .string ⟨#[]⟩, .string ⟨#[]⟩] 30)) w2.heap.size ⟨4, 0, 0, 0, 0, 0, ⟨#[]⟩, ⟨#[]⟩⟩ := World.alloc_heap_new _ _
  have HRet3 := Lib.hid (HRet.out.below hb3)
  have hxb : w2.heap.size ≠ b := by omega
  have hxr : w2.heap.size ≠ w.heap.size := by omega
  have hxw : w.heap.size ≤ w2.heap.size := by omega
  have HX := Lib.hid (And.intro hxb (And.intro hxr hxw))
  have HT : Hid (TkS 73 b w.heap.size w2.heap.size B w (⟨4, 0, 0, 0, 0, 0, ⟨#[]⟩, ⟨#[]⟩⟩, r1) (w2.alloc (.cells #[.int .i64 4, .int .i64 0, .int .i64 0, .int .i64 0, .int .i64 0, .int .i64 0, .string ⟨#[]⟩, .string ⟨#[]⟩] 30))) := Lib.hid ⟨HQ.out.1.below hb3, (KeptBut.of_below HB1.out).trans (HQ.out.2.trans (KeptBut.of_below hb3)), hbox, HRet3.out, HD2.out.below hb3, HL.out⟩
  have x1 := HT.out.rd.cells.2.1
  simp only at x1
  clear hb3 hbox hxb hxr hxw y1
  go_wp2_with fail
  refine (HT.out.rnum HX.out.1 hrne hb0 63).mono ?_
  rintro e w5 ⟨rfl, hs⟩
  rw [HV0.out.1]
  rw [HV0.out.2] at hs
  have z := hs.box.frozen
  obtain ⟨z0, z1, z2, z3, z4, z5, z6, z7⟩ := z
  obtain ⟨k0, k1, k2, k3, k4, k5, k6, k7⟩ := hs.box.cells
  simp only at k0 k1 k2 k3 k4 k5 k6 k7
  obtain ⟨W5, hW5⟩ : ∃ W, w5.setCell ⟨w2.heap.size, 1, none⟩ (.int .i64 V0) = W := ⟨_, rfl⟩
  have HS5 : Hid (TkS 73 b w.heap.size w2.heap.size B w ((⟨4, V0, 0, 0, 0, 0, ⟨#[]⟩, ⟨#[]⟩⟩ : OpR), q0) W5) := Lib.hid (by rw [← hW5]; exact hs.setV HX.out.1 HX.out.2.1 HX.out.2.2 (by omega) 1 _ rfl)
  obtain ⟨d0, d1, d2, d3, d4, d5, d6, d7⟩ := HS5.out.box.cells
  simp only at d0 d1 d2 d3 d4 d5 d6 d7
  clear hs  x1
  go_wp2_with fail
  refine (HS5.out.rnum HX.out.1 hrne hb0 63).mono ?_
  rintro e w6 ⟨rfl, hs⟩
  rw [HV1.out.1]
  rw [HV1.out.2] at hs
  have z := hs.box.frozen
  obtain ⟨z0, z1, z2, z3, z4, z5, z6, z7⟩ := z
  obtain ⟨k0, k1, k2, k3, k4, k5, k6, k7⟩ := hs.box.cells
  simp only at k0 k1 k2 k3 k4 k5 k6 k7
  obtain ⟨W6, hW6⟩ : ∃ W, w6.setCell ⟨w2.heap.size, 2, none⟩ (.int .i64 V1) = W := ⟨_, rfl⟩
  have HS6 : Hid (TkS 73 b w.heap.size w2.heap.size B w ((⟨4, V0, V1, 0, 0, 0, ⟨#[]⟩, ⟨#[]⟩⟩ : OpR), q1) W6) := Lib.hid (by rw [← hW6]; exact hs.setV HX.out.1 HX.out.2.1 HX.out.2.2 (by omega) 2 _ rfl)
  obtain ⟨c0, c1, c2, c3, c4, c5, c6, c7⟩ := HS6.out.box.cells
  simp only at c0 c1 c2 c3 c4 c5 c6 c7
  clear hs d0 d1 d2 d3 d4 d5 d6 d7 hW5
  go_wp2_with fail
  refine (HS6.out.rnum HX.out.1 hrne hb0 1073741824).mono ?_
  rintro e w7 ⟨rfl, hs⟩
  rw [HV2.out.1]
  rw [HV2.out.2] at hs
  have z := hs.box.frozen
  obtain ⟨z0, z1, z2, z3, z4, z5, z6, z7⟩ := z
  obtain ⟨k0, k1, k2, k3, k4, k5, k6, k7⟩ := hs.box.cells
  simp only at k0 k1 k2 k3 k4 k5 k6 k7
  obtain ⟨W7, hW7⟩ : ∃ W, w7.setCell ⟨w2.heap.size, 3, none⟩ (.int .i64 V2) = W := ⟨_, rfl⟩
  have HS7 : Hid (TkS 73 b w.heap.size w2.heap.size B w ((⟨4, V0, V1, V2, 0, 0, ⟨#[]⟩, ⟨#[]⟩⟩ : OpR), q2) W7) := Lib.hid (by rw [← hW7]; exact hs.setV HX.out.1 HX.out.2.1 HX.out.2.2 (by omega) 3 _ rfl)
  obtain ⟨d0, d1, d2, d3, d4, d5, d6, d7⟩ := HS7.out.box.cells
  simp only at d0 d1 d2 d3 d4 d5 d6 d7
  clear hs c0 c1 c2 c3 c4 c5 c6 c7 hW6
  obtain ⟨i0, i1, i2, i3, i4, i5, i6, i7⟩ := HS7.out.ret.cells
  obtain ⟨g0, g1, g2, g3, g4, g5, g6, g7⟩ := HS7.out.ret.frozen
  go_wp2_with fail
  have HFIN := put8_fin HS7.out.rd HS7.out.kept HS7.out.ret (fun e => hrne e.symm) (Nat.le_refl _) 4 V0 V1 V2 0 0 ⟨#[]⟩ ⟨#[]⟩
  refine bodyPost_ret (results_cell_row rfl _ _ w.heap.size 30 (OpR.cells ⟨4, V0, V1, V2, 0, 0, ⟨#[]⟩, ⟨#[]⟩⟩) (0, 0) _ rfl HFIN.1 Tryd.underlying30 rfl size_Op) rfl ?_
  exact ⟨_, rfl, fun _ => rfl, HFIN.2⟩

set_option maxHeartbeats 4000000 in
set_option maxRecDepth 100000 in
theorem rtake34_5 (b B : Nat) (r r1 : Rd) (he : r1.e = 0) (hB : r.l.length ≤ B) (hn : (r.num 1073741824).1 = 5) (hr1 : (r.num 1073741824).2 = r1) (hb0 : 0 < b) (w : World) (hd : Flds w) (h : RdAt 73 w b r) :
    Calls Tryd.prog 62 #[.pointer (some ⟨b, 0, none⟩)] w (RTakePost b (takeB 5 (({ zeroR with k := 5 } : OpR), r1)) w) := by
  have hlt := h.lt
  obtain ⟨w1, hw1⟩ : ∃ W, w.alloc (.cells zeroR.cells 30) = W := ⟨_, rfl⟩
  have hb1 : Below w.heap.size w w1 := by rw [← hw1]; exact (Below.refl _ _).alloc (Nat.le_refl _) _
  have HRB : Hid (OpBox w1 w.heap.size zeroR) := Lib.hid (by rw [← hw1]; exact World.alloc_heap_new _ _)
  have HN := Lib.hid (rnum_any' b r 1073741824 w1 (h.below hb1))
  have HB1 := Lib.hid hb1
  have HD1 := Lib.hid (hd.below hb1)
  have HSZ1 : Hid (w.heap.size + 1 ≤ w1.heap.size) := Lib.hid (by rw [← hw1]; simp)
  have HL := Lib.hid (Nat.le_trans (r.num_len 1073741824) hB)
  rw [hn, hr1] at HN
  rw [hr1] at HL
  simp only [zeroR, OpR.cells] at hw1
  have hrne : w.heap.size ≠ b := by omega
  obtain ⟨V0, hV0⟩ : ∃ V, (r1.num 63).1 = V := ⟨_, rfl⟩
  obtain ⟨q0, hq0⟩ : ∃ q, (r1.num 63).2 = q := ⟨_, rfl⟩
  have HV0 := Lib.hid (And.intro hV0 hq0)
  obtain ⟨V1, hV1⟩ : ∃ V, (q0.num 63).1 = V := ⟨_, rfl⟩
  obtain ⟨q1, hq1⟩ : ∃ q, (q0.num 63).2 = q := ⟨_, rfl⟩
  have HV1 := Lib.hid (And.intro hV1 hq1)
  obtain ⟨V2, hV2⟩ : ∃ V, (q1.num 1073741824).1 = V := ⟨_, rfl⟩
  obtain ⟨q2, hq2⟩ : ∃ q, (q1.num 1073741824).2 = q := ⟨_, rfl⟩
  have HV2 := Lib.hid (And.intro hV2 hq2)
  have f0 : fbit 5 0 = true := by decide +kernel
  have f1 : fbit 5 1 = true := by decide +kernel
  have f2 : fbit 5 2 = false := by decide +kernel
  have f3 : fbit 5 3 = false := by decide +kernel
  have f4 : fbit 5 4 = false := by decide +kernel
  have f5 : fbit 5 5 = false := by decide +kernel
  have HEQ : Hid (takeB 5 (({ zeroR with k := 5 } : OpR), r1) = ((⟨5, V0, V1, V2, 0, 0, ⟨#[]⟩, ⟨#[]⟩⟩ : OpR), q2)) := Lib.hid (by
    simp only [takeB, gto, gnums, gtxts, gnum, gtxt, Nat.add_zero, Nat.reduceAdd, f0, f1, f2, f3, f4, f5, if_true, if_false, Bool.false_eq_true, hV0, hq0, hV1, hq1, hV2, hq2]
    try rfl
    try (simp only [OpR.setN, OpR.setT, Nat.reduceEqDiff, if_true, if_false, hV0, hq0, hV1, hq1, hV2, hq2]; rfl))
  rw [HEQ.out]
  clear f0 f1 f2 f3 f4 f5
  clear h hd hb1 hn hr1 hV0 hq0 hV1 hq1 hV2 hq2
  go_enter Tryd.func62, Tryd.ntmps62
  go_wp2_with fail
  refine HN.out.mono ?_
  rintro e w2 ⟨rfl, h1, h2⟩
  have HQ := Lib.hid (And.intro h1 h2)
  have HRet := Lib.hid (HRB.out.keptBut h2 hrne)
  have HD2 : Hid (Flds w2) := Lib.hid (HD1.out.of_block (h2.block 0 (Nat.lt_of_le_of_lt (Nat.zero_le _) (Nat.lt_of_lt_of_le hlt HB1.out.size)) (by omega)))
  have hsz2 : w.heap.size + 1 ≤ w2.heap.size := Nat.le_trans HSZ1.out h2.size
  have y1 := h1.cells.2.1
  have hblt := h1.lt
  clear h1 h2 hw1
  have hb3 : Below w2.heap.size w2 (w2.alloc (.cells #[.int .i64 5, .int .i64 0, .int .i64 0, .int .i64 0, .int .i64 0, .int .i64 0, .string ⟨#[]⟩, .string ⟨#[]⟩] 30)) := (Below.refl _ _).alloc (Nat.le_refl _) _
  have hbox : OpBox (w2.alloc (.cells #[.int .i64 5, .int .i64 0, .int .i64 0, .int .i64 0, .int .i64 0, .int .i64 0, .string ⟨#[]⟩, .string ⟨#[]⟩] 30)) w2.heap.size ⟨5, 0, 0, 0, 0, 0, ⟨#[]⟩, ⟨#[]⟩⟩ := World.alloc_heap_new _ _
  have HRet3 := Lib.hid (HRet.out.below hb3)
  have hxb : w2.heap.size ≠ b := by omega
  have hxr : w2.heap.size ≠ w.heap.size := by omega
  have hxw : w.heap.size ≤ w2.heap.size := by omega
  have HX := Lib.hid (And.intro hxb (And.intro hxr hxw))
  have HT : Hid (TkS 73 b w.heap.size w2.heap.size B w (⟨5, 0, 0, 0, 0, 0, ⟨#[]⟩, ⟨#[]⟩⟩, r1) (w2.alloc (.cells #[.int .i64 5, .int .i64 0, .int .i64 0, .int .i64 0, .int .i64 0, .int .i64 0, .string ⟨#[]⟩, .string ⟨#[]⟩] 30))) := Lib.hid ⟨HQ.out.1.below hb3, (KeptBut.of_below HB1.out).trans (HQ.out.2.trans (KeptBut.of_below hb3)), hbox, HRet3.out, HD2.out.below hb3, HL.out⟩
  have x1 := HT.out.rd.cells.2.1
  simp only at x1
  clear hb3 hbox hxb hxr hxw y1
  go_wp2_with fail
  refine (HT.out.rnum HX.out.1 hrne hb0 63).mono ?_
  rintro e w5 ⟨rfl, hs⟩
  rw [HV0.out.1]
  rw [HV0.out.2] at hs
  have z := hs.box.frozen
  obtain ⟨z0, z1, z2, z3, z4, z5, z6, z7⟩ := z
  obtain ⟨k0, k1, k2, k3, k4, k5, k6, k7⟩ := hs.box.cells
  simp only at k0 k1 k2 k3 k4 k5 k6 k7
  obtain ⟨W5, hW5⟩ : ∃ W, w5.setCell ⟨w2.heap.size, 1, none⟩ (.int .i64 V0) = W := ⟨_, rfl⟩
  have HS5 : Hid (TkS 73 b w.heap.size w2.heap.size B w ((⟨5, V0, 0, 0, 0, 0, ⟨#[]⟩, ⟨#[]⟩⟩ : OpR), q0) W5) := Lib.hid (by rw [← hW5]; exact hs.setV HX.out.1 HX.out.2.1 HX.out.2.2 (by omega) 1 _ rfl)
  obtain ⟨d0, d1, d2, d3, d4, d5, d6, d7⟩ := HS5.out.box.cells
  simp only at d0 d1 d2 d3 d4 d5 d6 d7
  clear hs  x1
  go_wp2_with fail
  refine (HS5.out.rnum HX.out.1 hrne hb0 63).mono ?_
  rintro e w6 ⟨rfl, hs⟩
  rw [HV1.out.1]
  rw [HV1.out.2] at hs
  have z := hs.box.frozen
  obtain ⟨z0, z1, z2, z3, z4, z5, z6, z7⟩ := z
  obtain ⟨k0, k1, k2, k3, k4, k5, k6, k7⟩ := hs.box.cells
  simp only at k0 k1 k2 k3 k4 k5 k6 k7
  obtain ⟨W6, hW6⟩ : ∃ W, w6.setCell ⟨w2.heap.size, 2, none⟩ (.int .i64 V1) = W := ⟨_, rfl⟩
  have HS6 : Hid (TkS 73 b w.heap.size w2.heap.size B w ((⟨5, V0, V1, 0, 0, 0, ⟨#[]⟩, ⟨#[]⟩⟩ : OpR), q1) W6) := Lib.hid (by rw [← hW6]; exact hs.setV HX.out.1 HX.out.2.1 HX.out.2.2 (by omega) 2 _ rfl)
  obtain ⟨c0, c1, c2, c3, c4, c5, c6, c7⟩ := HS6.out.box.cells
  simp only at c0 c1 c2 c3 c4 c5 c6 c7
  clear hs d0 d1 d2 d3 d4 d5 d6 d7 hW5
  go_wp2_with fail
  refine (HS6.out.rnum HX.out.1 hrne hb0 1073741824).mono ?_
  rintro e w7 ⟨rfl, hs⟩
  rw [HV2.out.1]
  rw [HV2.out.2] at hs
  have z := hs.box.frozen
  obtain ⟨z0, z1, z2, z3, z4, z5, z6, z7⟩ := z
  obtain ⟨k0, k1, k2, k3, k4, k5, k6, k7⟩ := hs.box.cells
  simp only at k0 k1 k2 k3 k4 k5 k6 k7
  obtain ⟨W7, hW7⟩ : ∃ W, w7.setCell ⟨w2.heap.size, 3, none⟩ (.int .i64 V2) = W := ⟨_, rfl⟩
  have HS7 : Hid (TkS 73 b w.heap.size w2.heap.size B w ((⟨5, V0, V1, V2, 0, 0, ⟨#[]⟩, ⟨#[]⟩⟩ : OpR), q2) W7) := Lib.hid (by rw [← hW7]; exact hs.setV HX.out.1 HX.out.2.1 HX.out.2.2 (by omega) 3 _ rfl)
  obtain ⟨d0, d1, d2, d3, d4, d5, d6, d7⟩ := HS7.out.box.cells
  simp only at d0 d1 d2 d3 d4 d5 d6 d7
  clear hs c0 c1 c2 c3 c4 c5 c6 c7 hW6
  obtain ⟨i0, i1, i2, i3, i4, i5, i6, i7⟩ := HS7.out.ret.cells
  obtain ⟨g0, g1, g2, g3, g4, g5, g6, g7⟩ := HS7.out.ret.frozen
  go_wp2_with fail
  have HFIN := put8_fin HS7.out.rd HS7.out.kept HS7.out.ret (fun e => hrne e.symm) (Nat.le_refl _) 5 V0 V1 V2 0 0 ⟨#[]⟩ ⟨#[]⟩
  refine bodyPost_ret (results_cell_row rfl _ _ w.heap.size 30 (OpR.cells ⟨5, V0, V1, V2, 0, 0, ⟨#[]⟩, ⟨#[]⟩⟩) (0, 0) _ rfl HFIN.1 Tryd.underlying30 rfl size_Op) rfl ?_
  exact ⟨_, rfl, fun _ => rfl, HFIN.2⟩

set_option maxHeartbeats 4000000 in
set_option maxRecDepth 100000 in
theorem rtake34_6 (b B : Nat) (r r1 : Rd) (he : r1.e = 0) (hB : r.l.length ≤ B) (hn : (r.num 1073741824).1 = 6) (hr1 : (r.num 1073741824).2 = r1) (hb0 : 0 < b) (w : World) (hd : Flds w) (h : RdAt 73 w b r) :
    Calls Tryd.prog 62 #[.pointer (some ⟨b, 0, none⟩)] w (RTakePost b (takeB 6 (({ zeroR with k := 6 } : OpR), r1)) w) := by
  have hlt := h.lt
  obtain ⟨w1, hw1⟩ : ∃ W, w.alloc (.cells zeroR.cells 30) = W := ⟨_, rfl⟩
  have hb1 : Below w.heap.size w w1 := by rw [← hw1]; exact (Below.refl _ _).alloc (Nat.le_refl _) _
  have HRB : Hid (OpBox w1 w.heap.size zeroR) := Lib.hid (by rw [← hw1]; exact World.alloc_heap_new _ _)
  have HN := Lib.hid (rnum_any' b r 1073741824 w1 (h.below hb1))
  have HB1 := Lib.hid hb1
  have HD1 := Lib.hid (hd.below hb1)
  have HSZ1 : Hid (w.heap.size + 1 ≤ w1.heap.size) := Lib.hid (by rw [← hw1]; simp)
  have HL := Lib.hid (Nat.le_trans (r.num_len 1073741824) hB)
  rw [hn, hr1] at HN
  rw [hr1] at HL
  simp only [zeroR, OpR.cells] at hw1
  have hrne : w.heap.size ≠ b := by omega
  obtain ⟨V0, hV0⟩ : ∃ V, (r1.num 63).1 = V := ⟨_, rfl⟩
  obtain ⟨q0, hq0⟩ : ∃ q, (r1.num 63).2 = q := ⟨_, rfl⟩
  have HV0 := Lib.hid (And.intro hV0 hq0)
  obtain ⟨V1, hV1⟩ : ∃ V, (q0.num 63).1 = V := ⟨_, rfl⟩
  obtain ⟨q1, hq1⟩ : ∃ q, (q0.num 63).2 = q := ⟨_, rfl⟩
  have HV1 := Lib.hid (And.intro hV1 hq1)
  obtain ⟨V2, hV2⟩ : ∃ V, (q1.num 1073741824).1 = V := ⟨_, rfl⟩
  obtain ⟨q2, hq2⟩ : ∃ q, (q1.num 1073741824).2 = q := ⟨_, rfl⟩
  have HV2 := Lib.hid (And.intro hV2 hq2)
  have f0 : fbit 6 0 = true := by decide +kernel
  have f1 : fbit 6 1 = true := by decide +kernel
  have f2 : fbit 6 2 = false := by decide +kernel
  have f3 : fbit 6 3 = false := by decide +kernel
  have f4 : fbit 6 4 = false := by decide +kernel
  have f5 : fbit 6 5 = false := by decide +kernel
  have HEQ : Hid (takeB 6 (({ zeroR with k := 6 } : OpR), r1) = ((⟨6, V0, V1, V2, 0, 0, ⟨#[]⟩, ⟨#[]⟩⟩ : OpR), q2)) := Lib.hid (by
    simp only [takeB, gto, gnums, gtxts, gnum, gtxt, Nat.add_zero, Nat.reduceAdd, f0, f1, f2, f3, f4, f5, if_true, if_false, Bool.false_eq_true, hV0, hq0, hV1, hq1, hV2, hq2]
    try rfl
    try (simp only [OpR.setN, OpR.setT, Nat.reduceEqDiff, if_true, if_false, hV0, hq0, hV1, hq1, hV2, hq2]; rfl))
  rw [HEQ.out]
  clear f0 f1 f2 f3 f4 f5
  clear h hd hb1 hn hr1 hV0 hq0 hV1 hq1 hV2 hq2
  go_enter Tryd.func62, Tryd.ntmps62
  go_wp2_with fail
  refine HN.out.mono ?_
  rintro e w2 ⟨rfl, h1, h2⟩
  have HQ := Lib.hid (And.intro h1 h2)
  have HRet := Lib.hid (HRB.out.keptBut h2 hrne)
  have HD2 : Hid (Flds w2) := Lib.hid (HD1.out.of_block (h2.block 0 (Nat.lt_of_le_of_lt (Nat.zero_le _) (Nat.lt_of_lt_of_le hlt HB1.out.size)) (by omega)))
  have hsz2 : w.heap.size + 1 ≤ w2.heap.size := Nat.le_trans HSZ1.out h2.size
  have y1 := h1.cells.2.1
  have hblt := h1.lt
  clear h1 h2 hw1
  have hb3 : Below w2.heap.size w2 (w2.alloc (.cells #[.int .i64 6, .int .i64 0, .int .i64 0, .int .i64 0, .int .i64 0, .int .i64 0, .string ⟨#[]⟩, .string ⟨#[]⟩] 30)) := (Below.refl _ _).alloc (Nat.le_refl _) _
  have hbox : OpBox (w2.alloc (.cells #[.int .i64 6, .int .i64 0, .int .i64 0, .int .i64 0, .int .i64 0, .int .i64 0, .string ⟨#[]⟩, .string ⟨#[]⟩] 30)) w2.heap.size ⟨6, 0, 0, 0, 0, 0, ⟨#[]⟩, ⟨#[]⟩⟩ := World.alloc_heap_new _ _
  have HRet3 := Lib.hid (HRet.out.below hb3)
  have hxb : w2.heap.size ≠ b := by omega
  have hxr : w2.heap.size ≠ w.heap.size := by omega
  have hxw : w.heap.size ≤ w2.heap.size := by omega
  have HX := Lib.hid (And.intro hxb (And.intro hxr hxw))
  have HT : Hid (TkS 73 b w.heap.size w2.heap.size B w (⟨6, 0, 0, 0, 0, 0, ⟨#[]⟩, ⟨#[]⟩⟩, r1) (w2.alloc (.cells #[.int .i64 6, .int .i64 0, .int .i64 0, .int .i64 0, .int .i64 0, .int .i64 0, .string ⟨#[]⟩, .string ⟨#[]⟩] 30))) := Lib.hid ⟨HQ.out.1.below hb3, (KeptBut.of_below HB1.out).trans (HQ.out.2.trans (KeptBut.of_below hb3)), hbox, HRet3.out, HD2.out.below hb3, HL.out⟩
  have x1 := HT.out.rd.cells.2.1
  simp only at x1
  clear hb3 hbox hxb hxr hxw y1
  go_wp2_with fail
  refine (HT.out.rnum HX.out.1 hrne hb0 63).mono ?_
  rintro e w5 ⟨rfl, hs⟩
  rw [HV0.out.1]
  rw [HV0.out.2] at hs
  have z := hs.box.frozen
  obtain ⟨z0, z1, z2, z3, z4, z5, z6, z7⟩ := z
  obtain ⟨k0, k1, k2, k3, k4, k5, k6, k7⟩ := hs.box.cells
  simp only at k0 k1 k2 k3 k4 k5 k6 k7
  obtain ⟨W5, hW5⟩ : ∃ W, w5.setCell ⟨w2.heap.size, 1, none⟩ (.int .i64 V0) = W := ⟨_, rfl⟩
  have HS5 : Hid (TkS 73 b w.heap.size w2.heap.size B w ((⟨6, V0, 0, 0, 0, 0, ⟨#[]⟩, ⟨#[]⟩⟩ : OpR), q0) W5) := Lib.hid (by rw [← hW5]; exact hs.setV HX.out.1 HX.out.2.1 HX.out.2.2 (by omega) 1 _ rfl)
  obtain ⟨d0, d1, d2, d3, d4, d5, d6, d7⟩ := HS5.out.box.cells
  simp only at d0 d1 d2 d3 d4 d5 d6 d7
  clear hs  x1
  go_wp2_with fail
  refine (HS5.out.rnum HX.out.1 hrne hb0 63).mono ?_
  rintro e w6 ⟨rfl, hs⟩
  rw [HV1.out.1]
  rw [HV1.out.2] at hs
  have z := hs.box.frozen
  obtain ⟨z0, z1, z2, z3, z4, z5, z6, z7⟩ := z
  obtain ⟨k0, k1, k2, k3, k4, k5, k6, k7⟩ := hs.box.cells
  simp only at k0 k1 k2 k3 k4 k5 k6 k7
  obtain ⟨W6, hW6⟩ : ∃ W, w6.setCell ⟨w2.heap.size, 2, none⟩ (.int .i64 V1) = W := ⟨_, rfl⟩
  have HS6 : Hid (TkS 73 b w.heap.size w2.heap.size B w ((⟨6, V0, V1, 0, 0, 0, ⟨#[]⟩, ⟨#[]⟩⟩ : OpR), q1) W6) := Lib.hid (by rw [← hW6]; exact hs.setV HX.out.1 HX.out.2.1 HX.out.2.2 (by omega) 2 _ rfl)
  obtain ⟨c0, c1, c2, c3, c4, c5, c6, c7⟩ := HS6.out.box.cells
  simp only at c0 c1 c2 c3 c4 c5 c6 c7
  clear hs d0 d1 d2 d3 d4 d5 d6 d7 hW5
  go_wp2_with fail
  refine (HS6.out.rnum HX.out.1 hrne hb0 1073741824).mono ?_
  rintro e w7 ⟨rfl, hs⟩
  rw [HV2.out.1]
  rw [HV2.out.2] at hs
  have z := hs.box.frozen
  obtain ⟨z0, z1, z2, z3, z4, z5, z6, z7⟩ := z
  obtain ⟨k0, k1, k2, k3, k4, k5, k6, k7⟩ := hs.box.cells
  simp only at k0 k1 k2 k3 k4 k5 k6 k7
  obtain ⟨W7, hW7⟩ : ∃ W, w7.setCell ⟨w2.heap.size, 3, none⟩ (.int .i64 V2) = W := ⟨_, rfl⟩
  have HS7 : Hid (TkS 73 b w.heap.size w2.heap.size B w ((⟨6, V0, V1, V2, 0, 0, ⟨#[]⟩, ⟨#[]⟩⟩ : OpR), q2) W7) := Lib.hid (by rw [← hW7]; exact hs.setV HX.out.1 HX.out.2.1 HX.out.2.2 (by omega) 3 _ rfl)
  obtain ⟨d0, d1, d2, d3, d4, d5, d6, d7⟩ := HS7.out.box.cells
  simp only at d0 d1 d2 d3 d4 d5 d6 d7
  clear hs c0 c1 c2 c3 c4 c5 c6 c7 hW6
  obtain ⟨i0, i1, i2, i3, i4, i5, i6, i7⟩ := HS7.out.ret.cells
  obtain ⟨g0, g1, g2, g3, g4, g5, g6, g7⟩ := HS7.out.ret.frozen
  go_wp2_with fail
  have HFIN := put8_fin HS7.out.rd HS7.out.kept HS7.out.ret (fun e => hrne e.symm) (Nat.le_refl _) 6 V0 V1 V2 0 0 ⟨#[]⟩ ⟨#[]⟩
  refine bodyPost_ret (results_cell_row rfl _ _ w.heap.size 30 (OpR.cells ⟨6, V0, V1, V2, 0, 0, ⟨#[]⟩, ⟨#[]⟩⟩) (0, 0) _ rfl HFIN.1 Tryd.underlying30 rfl size_Op) rfl ?_
  exact ⟨_, rfl, fun _ => rfl, HFIN.2⟩

set_option maxHeartbeats 4000000 in
set_option maxRecDepth 100000 in
theorem rtake34_7 (b B : Nat) (r r1 : Rd) (he : r1.e = 0) (hB : r.l.length ≤ B) (hn : (r.num 1073741824).1 = 7) (hr1 : (r.num 1073741824).2 = r1) (hb0 : 0 < b) (w : World) (hd : Flds w) (h : RdAt 73 w b r) :
    Calls Tryd.prog 62 #[.pointer (some ⟨b, 0, none⟩)] w (RTakePost b (takeB 7 (({ zeroR with k := 7 } : OpR), r1)) w) := by
  have hlt := h.lt
  obtain ⟨w1, hw1⟩ : ∃ W, w.alloc (.cells zeroR.cells 30) = W := ⟨_, rfl⟩
  have hb1 : Below w.heap.size w w1 := by rw [← hw1]; exact (Below.refl _ _).alloc (Nat.le_refl _) _
  have HRB : Hid (OpBox w1 w.heap.size zeroR) := Lib.hid (by rw [← hw1]; exact World.alloc_heap_new _ _)
  have HN := Lib.hid (rnum_any' b r 1073741824 w1 (h.below hb1))
  have HB1 := Lib.hid hb1
  have HD1 := Lib.hid (hd.below hb1)
  have HSZ1 : Hid (w.heap.size + 1 ≤ w1.heap.size) := Lib.hid (by rw [← hw1]; simp)
  have HL := Lib.hid (Nat.le_trans (r.num_len 1073741824) hB)
  rw [hn, hr1] at HN
  rw [hr1] at HL
  simp only [zeroR, OpR.cells] at hw1
  have hrne : w.heap.size ≠ b := by omega
  obtain ⟨V0, hV0⟩ : ∃ V, (r1.num 63).1 = V := ⟨_, rfl⟩
  obtain ⟨q0, hq0⟩ : ∃ q, (r1.num 63).2 = q := ⟨_, rfl⟩
  have HV0 := Lib.hid (And.intro hV0 hq0)
  obtain ⟨V1, hV1⟩ : ∃ V, (q0.num 63).1 = V := ⟨_, rfl⟩
  obtain ⟨q1, hq1⟩ : ∃ q, (q0.num 63).2 = q := ⟨_, rfl⟩
  have HV1 := Lib.hid (And.intro hV1 hq1)
  obtain ⟨V2, hV2⟩ : ∃ V, (q1.num 1073741824).1 = V := ⟨_, rfl⟩
  obtain ⟨q2, hq2⟩ : ∃ q, (q1.num 1073741824).2 = q := ⟨_, rfl⟩
  have HV2 := Lib.hid (And.intro hV2 hq2)
  obtain ⟨V3, hV3⟩ : ∃ V, (q2.num 1073741824).1 = V := ⟨_, rfl⟩
  obtain ⟨q3, hq3⟩ : ∃ q, (q2.num 1073741824).2 = q := ⟨_, rfl⟩
  have HV3 := Lib.hid (And.intro hV3 hq3)
  obtain ⟨V4, hV4⟩ : ∃ V, (q3.num 1073741824).1 = V := ⟨_, rfl⟩
  obtain ⟨q4, hq4⟩ : ∃ q, (q3.num 1073741824).2 = q := ⟨_, rfl⟩
  have HV4 := Lib.hid (And.intro hV4 hq4)
  have f0 : fbit 7 0 = true := by decide +kernel
  have f1 : fbit 7 1 = true := by decide +kernel
  have f2 : fbit 7 2 = true := by decide +kernel
  have f3 : fbit 7 3 = true := by decide +kernel
  have f4 : fbit 7 4 = false := by decide +kernel
  have f5 : fbit 7 5 = false := by decide +kernel
  have HEQ : Hid (takeB 7 (({ zeroR with k := 7 } : OpR), r1) = ((⟨7, V0, V1, V2, V3, V4, ⟨#[]⟩, ⟨#[]⟩⟩ : OpR), q4)) := Lib.hid (by
    simp only [takeB, gto, gnums, gtxts, gnum, gtxt, Nat.add_zero, Nat.reduceAdd, f0, f1, f2, f3, f4, f5, if_true, if_false, Bool.false_eq_true, hV0, hq0, hV1, hq1, hV2, hq2, hV3, hq3, hV4, hq4]
    try rfl
    try (simp only [OpR.setN, OpR.setT, Nat.reduceEqDiff, if_true, if_false, hV0, hq0, hV1, hq1, hV2, hq2, hV3, hq3, hV4, hq4]; rfl))
  rw [HEQ.out]
  clear f0 f1 f2 f3 f4 f5
  clear h hd hb1 hn hr1 hV0 hq0 hV1 hq1 hV2 hq2 hV3 hq3 hV4 hq4
  go_enter Tryd.func62, Tryd.ntmps62
  go_wp2_with fail
  refine HN.out.mono ?_
  rintro e w2 ⟨rfl, h1, h2⟩
  have HQ := Lib.hid (And.intro h1 h2)
  have HRet := Lib.hid (HRB.out.keptBut h2 hrne)
  have HD2 : Hid (Flds w2) := Lib.hid (HD1.out.of_block (h2.block 0 (Nat.lt_of_le_of_lt (Nat.zero_le _) (Nat.lt_of_lt_of_le hlt HB1.out.size)) (by omega)))
  have hsz2 : w.heap.size + 1 ≤ w2.heap.size := Nat.le_trans HSZ1.out h2.size
  have y1 := h1.cells.2.1
  have hblt := h1.lt
  clear h1 h2 hw1
  have hb3 : Below w2.heap.size w2 (w2.alloc (.cells #[.int .i64 7, .int .i64 0, .int .i64 0, .int .i64 0, .int .i64 0, .int .i64 0, .string ⟨#[]⟩, .string ⟨#[]⟩] 30)) := (Below.refl _ _).alloc (Nat.le_refl _) _
  have hbox : OpBox (w2.alloc (.cells #[.int .i64 7, .int .i64 0, .int .i64 0, .int .i64 0, .int .i64 0, .int .i64 0, .string ⟨#[]⟩, .string ⟨#[]⟩] 30)) w2.heap.size ⟨7, 0, 0, 0, 0, 0, ⟨#[]⟩, ⟨#[]⟩⟩ := World.alloc_heap_new _ _
  have HRet3 := Lib.hid (HRet.out.below hb3)
  have hxb : w2.heap.size ≠ b := by omega
  have hxr : w2.heap.size ≠ w.heap.size := by omega
  have hxw : w.heap.size ≤ w2.heap.size := by omega
  have HX := Lib.hid (And.intro hxb (And.intro hxr hxw))
  have HT : Hid (TkS 73 b w.heap.size w2.heap.size B w (⟨7, 0, 0, 0, 0, 0, ⟨#[]⟩, ⟨#[]⟩⟩, r1) (w2.alloc (.cells #[.int .i64 7, .int .i64 0, .int .i64 0, .int .i64 0, .int .i64 0, .int .i64 0, .string ⟨#[]⟩, .string ⟨#[]⟩] 30))) := Lib.hid ⟨HQ.out.1.below hb3, (KeptBut.of_below HB1.out).trans (HQ.out.2.trans (KeptBut.of_below hb3)), hbox, HRet3.out, HD2.out.below hb3, HL.out⟩
  have x1 := HT.out.rd.cells.2.1
  simp only at x1
  clear hb3 hbox hxb hxr hxw y1
  go_wp2_with fail
  refine (HT.out.rnum HX.out.1 hrne hb0 63).mono ?_
  rintro e w5 ⟨rfl, hs⟩
  rw [HV0.out.1]
  rw [HV0.out.2] at hs
  have z := hs.box.frozen
  obtain ⟨z0, z1, z2, z3, z4, z5, z6, z7⟩ := z
  obtain ⟨k0, k1, k2, k3, k4, k5, k6, k7⟩ := hs.box.cells
  simp only at k0 k1 k2 k3 k4 k5 k6 k7
  obtain ⟨W5, hW5⟩ : ∃ W, w5.setCell ⟨w2.heap.size, 1, none⟩ (.int .i64 V0) = W := ⟨_, rfl⟩
  have HS5 : Hid (TkS 73 b w.heap.size w2.heap.size B w ((⟨7, V0, 0, 0, 0, 0, ⟨#[]⟩, ⟨#[]⟩⟩ : OpR), q0) W5) := Lib.hid (by rw [← hW5]; exact hs.setV HX.out.1 HX.out.2.1 HX.out.2.2 (by omega) 1 _ rfl)
  obtain ⟨d0, d1, d2, d3, d4, d5, d6, d7⟩ := HS5.out.box.cells
  simp only at d0 d1 d2 d3 d4 d5 d6 d7
  clear hs  x1
  go_wp2_with fail
  refine (HS5.out.rnum HX.out.1 hrne hb0 63).mono ?_
  rintro e w6 ⟨rfl, hs⟩
  rw [HV1.out.1]
  rw [HV1.out.2] at hs
  have z := hs.box.frozen
  obtain ⟨z0, z1, z2, z3, z4, z5, z6, z7⟩ := z
  obtain ⟨k0, k1, k2, k3, k4, k5, k6, k7⟩ := hs.box.cells
  simp only at k0 k1 k2 k3 k4 k5 k6 k7
  obtain ⟨W6, hW6⟩ : ∃ W, w6.setCell ⟨w2.heap.size, 2, none⟩ (.int .i64 V1) = W := ⟨_, rfl⟩
  have HS6 : Hid (TkS 73 b w.heap.size w2.heap.size B w ((⟨7, V0, V1, 0, 0, 0, ⟨#[]⟩, ⟨#[]⟩⟩ : OpR), q1) W6) := Lib.hid (by rw [← hW6]; exact hs.setV HX.out.1 HX.out.2.1 HX.out.2.2 (by omega) 2 _ rfl)
  obtain ⟨c0, c1, c2, c3, c4, c5, c6, c7⟩ := HS6.out.box.cells
  simp only at c0 c1 c2 c3 c4 c5 c6 c7
  clear hs d0 d1 d2 d3 d4 d5 d6 d7 hW5
  go_wp2_with fail
  refine (HS6.out.rnum HX.out.1 hrne hb0 1073741824).mono ?_
  rintro e w7 ⟨rfl, hs⟩
  rw [HV2.out.1]
  rw [HV2.out.2] at hs
  have z := hs.box.frozen
  obtain ⟨z0, z1, z2, z3, z4, z5, z6, z7⟩ := z
  obtain ⟨k0, k1, k2, k3, k4, k5, k6, k7⟩ := hs.box.cells
  simp only at k0 k1 k2 k3 k4 k5 k6 k7
  obtain ⟨W7, hW7⟩ : ∃ W, w7.setCell ⟨w2.heap.size, 3, none⟩ (.int .i64 V2) = W := ⟨_, rfl⟩
  have HS7 : Hid (TkS 73 b w.heap.size w2.heap.size B w ((⟨7, V0, V1, V2, 0, 0, ⟨#[]⟩, ⟨#[]⟩⟩ : OpR), q2) W7) := Lib.hid (by rw [← hW7]; exact hs.setV HX.out.1 HX.out.2.1 HX.out.2.2 (by omega) 3 _ rfl)
  obtain ⟨d0, d1, d2, d3, d4, d5, d6, d7⟩ := HS7.out.box.cells
  simp only at d0 d1 d2 d3 d4 d5 d6 d7
  clear hs c0 c1 c2 c3 c4 c5 c6 c7 hW6
  go_wp2_with fail
  refine (HS7.out.rnum HX.out.1 hrne hb0 1073741824).mono ?_
  rintro e w8 ⟨rfl, hs⟩
  rw [HV3.out.1]
  rw [HV3.out.2] at hs
  have z := hs.box.frozen
  obtain ⟨z0, z1, z2, z3, z4, z5, z6, z7⟩ := z
  obtain ⟨k0, k1, k2, k3, k4, k5, k6, k7⟩ := hs.box.cells
  simp only at k0 k1 k2 k3 k4 k5 k6 k7
  obtain ⟨W8, hW8⟩ : ∃ W, w8.setCell ⟨w2.heap.size, 4, none⟩ (.int .i64 V3) = W := ⟨_, rfl⟩
  have HS8 : Hid (TkS 73 b w.heap.size w2.heap.size B w ((⟨7, V0, V1, V2, V3, 0, ⟨#[]⟩, ⟨#[]⟩⟩ : OpR), q3) W8) := Lib.hid (by rw [← hW8]; exact hs.setV HX.out.1 HX.out.2.1 HX.out.2.2 (by omega) 4 _ rfl)
  obtain ⟨c0, c1, c2, c3, c4, c5, c6, c7⟩ := HS8.out.box.cells
  simp only at c0 c1 c2 c3 c4 c5 c6 c7
  clear hs d0 d1 d2 d3 d4 d5 d6 d7 hW7
  go_wp2_with fail
  refine (HS8.out.rnum HX.out.1 hrne hb0 1073741824).mono ?_
  rintro e w9 ⟨rfl, hs⟩
  rw [HV4.out.1]
  rw [HV4.out.2] at hs
  have z := hs.box.frozen
  obtain ⟨z0, z1, z2, z3, z4, z5, z6, z7⟩ := z
  obtain ⟨k0, k1, k2, k3, k4, k5, k6, k7⟩ := hs.box.cells
  simp only at k0 k1 k2 k3 k4 k5 k6 k7
  obtain ⟨W9, hW9⟩ : ∃ W, w9.setCell ⟨w2.heap.size, 5, none⟩ (.int .i64 V4) = W := ⟨_, rfl⟩
  have HS9 : Hid (TkS 73 b w.heap.size w2.heap.size B w ((⟨7, V0, V1, V2, V3, V4, ⟨#[]⟩, ⟨#[]⟩⟩ : OpR), q4) W9) := Lib.hid (by rw [← hW9]; exact hs.setV HX.out.1 HX.out.2.1 HX.out.2.2 (by omega) 5 _ rfl)
  obtain ⟨d0, d1, d2, d3, d4, d5, d6, d7⟩ := HS9.out.box.cells
  simp only at d0 d1 d2 d3 d4 d5 d6 d7
  clear hs c0 c1 c2 c3 c4 c5 c6 c7 hW8
  obtain ⟨i0, i1, i2, i3, i4, i5, i6, i7⟩ := HS9.out.ret.cells
  obtain ⟨g0, g1, g2, g3, g4, g5, g6, g7⟩ := HS9.out.ret.frozen
  go_wp2_with fail
  have HFIN := put8_fin HS9.out.rd HS9.out.kept HS9.out.ret (fun e => hrne e.symm) (Nat.le_refl _) 7 V0 V1 V2 V3 V4 ⟨#[]⟩ ⟨#[]⟩
  refine bodyPost_ret (results_cell_row rfl _ _ w.heap.size 30 (OpR.cells ⟨7, V0, V1, V2, V3, V4, ⟨#[]⟩, ⟨#[]⟩⟩) (0, 0) _ rfl HFIN.1 Tryd.underlying30 rfl size_Op) rfl ?_
  exact ⟨_, rfl, fun _ => rfl, HFIN.2⟩

set_option maxHeartbeats 4000000 in
set_option maxRecDepth 100000 in
theorem rtake34_8 (b B : Nat) (r r1 : Rd) (he : r1.e = 0) (hB : r.l.length ≤ B) (hn : (r.num 1073741824).1 = 8) (hr1 : (r.num 1073741824).2 = r1) (hb0 : 0 < b) (w : World) (hd : Flds w) (h : RdAt 73 w b r) :
    Calls Tryd.prog 62 #[.pointer (some ⟨b, 0, none⟩)] w (RTakePost b (takeB 8 (({ zeroR with k := 8 } : OpR), r1)) w) := by
  have hlt := h.lt
  obtain ⟨w1, hw1⟩ : ∃ W, w.alloc (.cells zeroR.cells 30) = W := ⟨_, rfl⟩
  have hb1 : Below w.heap.size w w1 := by rw [← hw1]; exact (Below.refl _ _).alloc (Nat.le_refl _) _
  have HRB : Hid (OpBox w1 w.heap.size zeroR) := Lib.hid (by rw [← hw1]; exact World.alloc_heap_new _ _)
  have HN := Lib.hid (rnum_any' b r 1073741824 w1 (h.below hb1))
  have HB1 := Lib.hid hb1
  have HD1 := Lib.hid (hd.below hb1)
  have HSZ1 : Hid (w.heap.size + 1 ≤ w1.heap.size) := Lib.hid (by rw [← hw1]; simp)
  have HL := Lib.hid (Nat.le_trans (r.num_len 1073741824) hB)
  rw [hn, hr1] at HN
  rw [hr1] at HL
  simp only [zeroR, OpR.cells] at hw1
  have hrne : w.heap.size ≠ b := by omega
  obtain ⟨V0, hV0⟩ : ∃ V, (r1.num 63).1 = V := ⟨_, rfl⟩
  obtain ⟨q0, hq0⟩ : ∃ q, (r1.num 63).2 = q := ⟨_, rfl⟩
  have HV0 := Lib.hid (And.intro hV0 hq0)
  obtain ⟨V1, hV1⟩ : ∃ V, (q0.num 1073741824).1 = V := ⟨_, rfl⟩
  obtain ⟨q1, hq1⟩ : ∃ q, (q0.num 1073741824).2 = q := ⟨_, rfl⟩
  have HV1 := Lib.hid (And.intro hV1 hq1)
  have f0 : fbit 8 0 = false := by decide +kernel
  have f1 : fbit 8 1 = true := by decide +kernel
  have f2 : fbit 8 2 = false := by decide +kernel
  have f3 : fbit 8 3 = false := by decide +kernel
  have f4 : fbit 8 4 = false := by decide +kernel
  have f5 : fbit 8 5 = false := by decide +kernel
  have HEQ : Hid (takeB 8 (({ zeroR with k := 8 } : OpR), r1) = ((⟨8, V0, 0, V1, 0, 0, ⟨#[]⟩, ⟨#[]⟩⟩ : OpR), q1)) := Lib.hid (by
    simp only [takeB, gto, gnums, gtxts, gnum, gtxt, Nat.add_zero, Nat.reduceAdd, f0, f1, f2, f3, f4, f5, if_true, if_false, Bool.false_eq_true, hV0, hq0, hV1, hq1]
    try rfl
    try (simp only [OpR.setN, OpR.setT, Nat.reduceEqDiff, if_true, if_false, hV0, hq0, hV1, hq1]; rfl))
  rw [HEQ.out]
  clear f0 f1 f2 f3 f4 f5
  clear h hd hb1 hn hr1 hV0 hq0 hV1 hq1
  go_enter Tryd.func62, Tryd.ntmps62
  go_wp2_with fail
  refine HN.out.mono ?_
  rintro e w2 ⟨rfl, h1, h2⟩
  have HQ := Lib.hid (And.intro h1 h2)
  have HRet := Lib.hid (HRB.out.keptBut h2 hrne)
  have HD2 : Hid (Flds w2) := Lib.hid (HD1.out.of_block (h2.block 0 (Nat.lt_of_le_of_lt (Nat.zero_le _) (Nat.lt_of_lt_of_le hlt HB1.out.size)) (by omega)))
  have hsz2 : w.heap.size + 1 ≤ w2.heap.size := Nat.le_trans HSZ1.out h2.size
  have y1 := h1.cells.2.1
  have hblt := h1.lt
  clear h1 h2 hw1
  have hb3 : Below w2.heap.size w2 (w2.alloc (.cells #[.int .i64 8, .int .i64 0, .int .i64 0, .int .i64 0, .int .i64 0, .int .i64 0, .string ⟨#[]⟩, .string ⟨#[]⟩] 30)) := (Below.refl _ _).alloc (Nat.le_refl _) _
  have hbox : OpBox (w2.alloc (.cells #[.int .i64 8, .int .i64 0, .int .i64 0, .int .i64 0, .int .i64 0, .int .i64 0, .string ⟨#[]⟩, .string ⟨#[]⟩] 30)) w2.heap.size ⟨8, 0, 0, 0, 0, 0, ⟨#[]⟩, ⟨#[]⟩⟩ := World.alloc_heap_new _ _
  have HRet3 := Lib.hid (HRet.out.below hb3)
  have hxb : w2.heap.size ≠ b := by omega
  have hxr : w2.heap.size ≠ w.heap.size := by omega
  have hxw : w.heap.size ≤ w2.heap.size := by omega
  have HX := Lib.hid (And.intro hxb (And.intro hxr hxw))
  have HT : Hid (TkS 73 b w.heap.size w2.heap.size B w (⟨8, 0, 0, 0, 0, 0, ⟨#[]⟩, ⟨#[]⟩⟩, r1) (w2.alloc (.cells #[.int .i64 8, .int .i64 0, .int .i64 0, .int .i64 0, .int .i64 0, .int .i64 0, .string ⟨#[]⟩, .string ⟨#[]⟩] 30))) := Lib.hid ⟨HQ.out.1.below hb3, (KeptBut.of_below HB1.out).trans (HQ.out.2.trans (KeptBut.of_below hb3)), hbox, HRet3.out, HD2.out.below hb3, HL.out⟩
  have x1 := HT.out.rd.cells.2.1
  simp only at x1
  clear hb3 hbox hxb hxr hxw y1
  go_wp2_with fail
  refine (HT.out.rnum HX.out.1 hrne hb0 63).mono ?_
  rintro e w5 ⟨rfl, hs⟩
  rw [HV0.out.1]
  rw [HV0.out.2] at hs
  have z := hs.box.frozen
  obtain ⟨z0, z1, z2, z3, z4, z5, z6, z7⟩ := z
  obtain ⟨k0, k1, k2, k3, k4, k5, k6, k7⟩ := hs.box.cells
  simp only at k0 k1 k2 k3 k4 k5 k6 k7
  obtain ⟨W5, hW5⟩ : ∃ W, w5.setCell ⟨w2.heap.size, 1, none⟩ (.int .i64 V0) = W := ⟨_, rfl⟩
  have HS5 : Hid (TkS 73 b w.heap.size w2.heap.size B w ((⟨8, V0, 0, 0, 0, 0, ⟨#[]⟩, ⟨#[]⟩⟩ : OpR), q0) W5) := Lib.hid (by rw [← hW5]; exact hs.setV HX.out.1 HX.out.2.1 HX.out.2.2 (by omega) 1 _ rfl)
  obtain ⟨d0, d1, d2, d3, d4, d5, d6, d7⟩ := HS5.out.box.cells
  simp only at d0 d1 d2 d3 d4 d5 d6 d7
  clear hs  x1
  go_wp2_with fail
  refine (HS5.out.rnum HX.out.1 hrne hb0 1073741824).mono ?_
  rintro e w6 ⟨rfl, hs⟩
  rw [HV1.out.1]
  rw [HV1.out.2] at hs
  have z := hs.box.frozen
  obtain ⟨z0, z1, z2, z3, z4, z5, z6, z7⟩ := z
  obtain ⟨k0, k1, k2, k3, k4, k5, k6, k7⟩ := hs.box.cells
  simp only at k0 k1 k2 k3 k4 k5 k6 k7
  obtain ⟨W6, hW6⟩ : ∃ W, w6.setCell ⟨w2.heap.size, 3, none⟩ (.int .i64 V1) = W := ⟨_, rfl⟩
  have HS6 : Hid (TkS 73 b w.heap.size w2.heap.size B w ((⟨8, V0, 0, V1, 0, 0, ⟨#[]⟩, ⟨#[]⟩⟩ : OpR), q1) W6) := Lib.hid (by rw [← hW6]; exact hs.setV HX.out.1 HX.out.2.1 HX.out.2.2 (by omega) 3 _ rfl)
  obtain ⟨c0, c1, c2, c3, c4, c5, c6, c7⟩ := HS6.out.box.cells
  simp only at c0 c1 c2 c3 c4 c5 c6 c7
  clear hs d0 d1 d2 d3 d4 d5 d6 d7 hW5
  obtain ⟨i0, i1, i2, i3, i4, i5, i6, i7⟩ := HS6.out.ret.cells
  obtain ⟨g0, g1, g2, g3, g4, g5, g6, g7⟩ := HS6.out.ret.frozen
  go_wp2_with fail
  have HFIN := put8_fin HS6.out.rd HS6.out.kept HS6.out.ret (fun e => hrne e.symm) (Nat.le_refl _) 8 V0 0 V1 0 0 ⟨#[]⟩ ⟨#[]⟩
  refine bodyPost_ret (results_cell_row rfl _ _ w.heap.size 30 (OpR.cells ⟨8, V0, 0, V1, 0, 0, ⟨#[]⟩, ⟨#[]⟩⟩) (0, 0) _ rfl HFIN.1 Tryd.underlying30 rfl size_Op) rfl ?_
  exact ⟨_, rfl, fun _ => rfl, HFIN.2⟩

set_option maxHeartbeats 4000000 in
set_option maxRecDepth 100000 in
theorem rtake34_9 (b B : Nat) (r r1 : Rd) (he : r1.e = 0) (hB : r.l.length ≤ B) (hn : (r.num 1073741824).1 = 9) (hr1 : (r.num 1073741824).2 = r1) (hb0 : 0 < b) (w : World) (hd : Flds w) (h : RdAt 73 w b r) :
    Calls Tryd.prog 62 #[.pointer (some ⟨b, 0, none⟩)] w (RTakePost b (takeB 9 (({ zeroR with k := 9 } : OpR), r1)) w) := by
  have hlt := h.lt
  obtain ⟨w1, hw1⟩ : ∃ W, w.alloc (.cells zeroR.cells 30) = W := ⟨_, rfl⟩
  have hb1 : Below w.heap.size w w1 := by rw [← hw1]; exact (Below.refl _ _).alloc (Nat.le_refl _) _
  have HRB : Hid (OpBox w1 w.heap.size zeroR) := Lib.hid (by rw [← hw1]; exact World.alloc_heap_new _ _)
  have HN := Lib.hid (rnum_any' b r 1073741824 w1 (h.below hb1))
  have HB1 := Lib.hid hb1
  have HD1 := Lib.hid (hd.below hb1)
  have HSZ1 : Hid (w.heap.size + 1 ≤ w1.heap.size) := Lib.hid (by rw [← hw1]; simp)
  have HL := Lib.hid (Nat.le_trans (r.num_len 1073741824) hB)
  rw [hn, hr1] at HN
  rw [hr1] at HL
  simp only [zeroR, OpR.cells] at hw1
  have hrne : w.heap.size ≠ b := by omega
  obtain ⟨V0, hV0⟩ : ∃ V, (r1.num 63).1 = V := ⟨_, rfl⟩
  obtain ⟨q0, hq0⟩ : ∃ q, (r1.num 63).2 = q := ⟨_, rfl⟩
  have HV0 := Lib.hid (And.intro hV0 hq0)
  obtain ⟨V1, hV1⟩ : ∃ V, (q0.num 1073741824).1 = V := ⟨_, rfl⟩
  obtain ⟨q1, hq1⟩ : ∃ q, (q0.num 1073741824).2 = q := ⟨_, rfl⟩
  have HV1 := Lib.hid (And.intro hV1 hq1)
  obtain ⟨V2, hV2⟩ : ∃ V, (q1.num 1073741824).1 = V := ⟨_, rfl⟩
  obtain ⟨q2, hq2⟩ : ∃ q, (q1.num 1073741824).2 = q := ⟨_, rfl⟩
  have HV2 := Lib.hid (And.intro hV2 hq2)
  have f0 : fbit 9 0 = false := by decide +kernel
  have f1 : fbit 9 1 = true := by decide +kernel
  have f2 : fbit 9 2 = true := by decide +kernel
  have f3 : fbit 9 3 = false := by decide +kernel
  have f4 : fbit 9 4 = false := by decide +kernel
  have f5 : fbit 9 5 = false := by decide +kernel
  have HEQ : Hid (takeB 9 (({ zeroR with k := 9 } : OpR), r1) = ((⟨9, V0, 0, V1, V2, 0, ⟨#[]⟩, ⟨#[]⟩⟩ : OpR), q2)) := Lib.hid (by
    simp only [takeB, gto, gnums, gtxts, gnum, gtxt, Nat.add_zero, Nat.reduceAdd, f0, f1, f2, f3, f4, f5, if_true, if_false, Bool.false_eq_true, hV0, hq0, hV1, hq1, hV2, hq2]
    try rfl
    try (simp only [OpR.setN, OpR.setT, Nat.reduceEqDiff, if_true, if_false, hV0, hq0, hV1, hq1, hV2, hq2]; rfl))
  rw [HEQ.out]
  clear f0 f1 f2 f3 f4 f5
  clear h hd hb1 hn hr1 hV0 hq0 hV1 hq1 hV2 hq2
  go_enter Tryd.func62, Tryd.ntmps62
  go_wp2_with fail
  refine HN.out.mono ?_
  rintro e w2 ⟨rfl, h1, h2⟩
  have HQ := Lib.hid (And.intro h1 h2)
  have HRet := Lib.hid (HRB.out.keptBut h2 hrne)
  have HD2 : Hid (Flds w2) := Lib.hid (HD1.out.of_block (h2.block 0 (Nat.lt_of_le_of_lt (Nat.zero_le _) (Nat.lt_of_lt_of_le hlt HB1.out.size)) (by omega)))
  have hsz2 : w.heap.size + 1 ≤ w2.heap.size := Nat.le_trans HSZ1.out h2.size
  have y1 := h1.cells.2.1
  have hblt := h1.lt
  clear h1 h2 hw1
  have hb3 : Below w2.heap.size w2 (w2.alloc (.cells #[.int .i64 9, .int .i64 0, .int .i64 0, .int .i64 0, .int .i64 0, .int .i64 0, .string ⟨#[]⟩, .string ⟨#[]⟩] 30)) := (Below.refl _ _).alloc (Nat.le_refl _) _
  have hbox : OpBox (w2.alloc (.cells #[.int .i64 9, .int .i64 0, .int .i64 0, .int .i64 0, .int .i64 0, .int .i64 0, .string ⟨#[]⟩, .string ⟨#[]⟩] 30)) w2.heap.size ⟨9, 0, 0, 0, 0, 0, ⟨#[]⟩, ⟨#[]⟩⟩ := World.alloc_heap_new _ _
  have HRet3 := Lib.hid (HRet.out.below hb3)
  have hxb : w2.heap.size ≠ b := by omega
  have hxr : w2.heap.size ≠ w.heap.size := by omega
  have hxw : w.heap.size ≤ w2.heap.size := by omega
  have HX := Lib.hid (And.intro hxb (And.intro hxr hxw))
  have HT : Hid (TkS 73 b w.heap.size w2.heap.size B w (⟨9, 0, 0, 0, 0, 0, ⟨#[]⟩, ⟨#[]⟩⟩, r1) (w2.alloc (.cells #[.int .i64 9, .int .i64 0, .int .i64 0, .int .i64 0, .int .i64 0, .int .i64 0, .string ⟨#[]⟩, .string ⟨#[]⟩] 30))) := Lib.hid ⟨HQ.out.1.below hb3, (KeptBut.of_below HB1.out).trans (HQ.out.2.trans (KeptBut.of_below hb3)), hbox, HRet3.out, HD2.out.below hb3, HL.out⟩
  have x1 := HT.out.rd.cells.2.1
  simp only at x1
  clear hb3 hbox hxb hxr hxw y1
  go_wp2_with fail
  refine (HT.out.rnum HX.out.1 hrne hb0 63).mono ?_
  rintro e w5 ⟨rfl, hs⟩
  rw [HV0.out.1]
  rw [HV0.out.2] at hs
  have z := hs.box.frozen
  obtain ⟨z0, z1, z2, z3, z4, z5, z6, z7⟩ := z
  obtain ⟨k0, k1, k2, k3, k4, k5, k6, k7⟩ := hs.box.cells
  simp only at k0 k1 k2 k3 k4 k5 k6 k7
  obtain ⟨W5, hW5⟩ : ∃ W, w5.setCell ⟨w2.heap.size, 1, none⟩ (.int .i64 V0) = W := ⟨_, rfl⟩
  have HS5 : Hid (TkS 73 b w.heap.size w2.heap.size B w ((⟨9, V0, 0, 0, 0, 0, ⟨#[]⟩, ⟨#[]⟩⟩ : OpR), q0) W5) := Lib.hid (by rw [← hW5]; exact hs.setV HX.out.1 HX.out.2.1 HX.out.2.2 (by omega) 1 _ rfl)
  obtain ⟨d0, d1, d2, d3, d4, d5, d6, d7⟩ := HS5.out.box.cells
  simp only at d0 d1 d2 d3 d4 d5 d6 d7
  clear hs  x1
  go_wp2_with fail
  refine (HS5.out.rnum HX.out.1 hrne hb0 1073741824).mono ?_
  rintro e w6 ⟨rfl, hs⟩
  rw [HV1.out.1]
  rw [HV1.out.2] at hs
  have z := hs.box.frozen
  obtain ⟨z0, z1, z2, z3, z4, z5, z6, z7⟩ := z
  obtain ⟨k0, k1, k2, k3, k4, k5, k6, k7⟩ := hs.box.cells
  simp only at k0 k1 k2 k3 k4 k5 k6 k7
  obtain ⟨W6, hW6⟩ : ∃ W, w6.setCell ⟨w2.heap.size, 3, none⟩ (.int .i64 V1) = W := ⟨_, rfl⟩
  have HS6 : Hid (TkS 73 b w.heap.size w2.heap.size B w ((⟨9, V0, 0, V1, 0, 0, ⟨#[]⟩, ⟨#[]⟩⟩ : OpR), q1) W6) := Lib.hid (by rw [← hW6]; exact hs.setV HX.out.1 HX.out.2.1 HX.out.2.2 (by omega) 3 _ rfl)
  obtain ⟨c0, c1, c2, c3, c4, c5, c6, c7⟩ := HS6.out.box.cells
  simp only at c0 c1 c2 c3 c4 c5 c6 c7
  clear hs d0 d1 d2 d3 d4 d5 d6 d7 hW5
  go_wp2_with fail
  refine (HS6.out.rnum HX.out.1 hrne hb0 1073741824).mono ?_
  rintro e w7 ⟨rfl, hs⟩
  rw [HV2.out.1]
  rw [HV2.out.2] at hs
  have z := hs.box.frozen
  obtain ⟨z0, z1, z2, z3, z4, z5, z6, z7⟩ := z
  obtain ⟨k0, k1, k2, k3, k4, k5, k6, k7⟩ := hs.box.cells
  simp only at k0 k1 k2 k3 k4 k5 k6 k7
  obtain ⟨W7, hW7⟩ : ∃ W, w7.setCell ⟨w2.heap.size, 4, none⟩ (.int .i64 V2) = W := ⟨_, rfl⟩
  have HS7 : Hid (TkS 73 b w.heap.size w2.heap.size B w ((⟨9, V0, 0, V1, V2, 0, ⟨#[]⟩, ⟨#[]⟩⟩ : OpR), q2) W7) := Lib.hid (by rw [← hW7]; exact hs.setV HX.out.1 HX.out.2.1 HX.out.2.2 (by omega) 4 _ rfl)
  obtain ⟨d0, d1, d2, d3, d4, d5, d6, d7⟩ := HS7.out.box.cells
  simp only at d0 d1 d2 d3 d4 d5 d6 d7
  clear hs c0 c1 c2 c3 c4 c5 c6 c7 hW6
  obtain ⟨i0, i1, i2, i3, i4, i5, i6, i7⟩ := HS7.out.ret.cells
  obtain ⟨g0, g1, g2, g3, g4, g5, g6, g7⟩ := HS7.out.ret.frozen
  go_wp2_with fail
  have HFIN := put8_fin HS7.out.rd HS7.out.kept HS7.out.ret (fun e => hrne e.symm) (Nat.le_refl _) 9 V0 0 V1 V2 0 ⟨#[]⟩ ⟨#[]⟩
  refine bodyPost_ret (results_cell_row rfl _ _ w.heap.size 30 (OpR.cells ⟨9, V0, 0, V1, V2, 0, ⟨#[]⟩, ⟨#[]⟩⟩) (0, 0) _ rfl HFIN.1 Tryd.underlying30 rfl size_Op) rfl ?_
  exact ⟨_, rfl, fun _ => rfl, HFIN.2⟩

set_option maxHeartbeats 4000000 in
set_option maxRecDepth 100000 in
theorem rtake34_10 (b B : Nat) (r r1 : Rd) (he : r1.e = 0) (hB : r.l.length ≤ B) (hn : (r.num 1073741824).1 = 10) (hr1 : (r.num 1073741824).2 = r1) (hb0 : 0 < b) (w : World) (hd : Flds w) (h : RdAt 73 w b r) :
    Calls Tryd.prog 62 #[.pointer (some ⟨b, 0, none⟩)] w (RTakePost b (takeB 10 (({ zeroR with k := 10 } : OpR), r1)) w) := by
  have hlt := h.lt
  obtain ⟨w1, hw1⟩ : ∃ W, w.alloc (.cells zeroR.cells 30) = W := ⟨_, rfl⟩
  have hb1 : Below w.heap.size w w1 := by rw [← hw1]; exact (Below.refl _ _).alloc (Nat.le_refl _) _
  have HRB : Hid (OpBox w1 w.heap.size zeroR) := Lib.hid (by rw [← hw1]; exact World.alloc_heap_new _ _)
  have HN := Lib.hid (rnum_any' b r 1073741824 w1 (h.below hb1))
  have HB1 := Lib.hid hb1
  have HD1 := Lib.hid (hd.below hb1)
  have HSZ1 : Hid (w.heap.size + 1 ≤ w1.heap.size) := Lib.hid (by rw [← hw1]; simp)
  have HL := Lib.hid (Nat.le_trans (r.num_len 1073741824) hB)
  rw [hn, hr1] at HN
  rw [hr1] at HL
  simp only [zeroR, OpR.cells] at hw1
  have hrne : w.heap.size ≠ b := by omega
  obtain ⟨V0, hV0⟩ : ∃ V, (r1.num 63).1 = V := ⟨_, rfl⟩
  obtain ⟨q0, hq0⟩ : ∃ q, (r1.num 63).2 = q := ⟨_, rfl⟩
  have HV0 := Lib.hid (And.intro hV0 hq0)
  have f0 : fbit 10 0 = false := by decide +kernel
  have f1 : fbit 10 1 = false := by decide +kernel
  have f2 : fbit 10 2 = false := by decide +kernel
  have f3 : fbit 10 3 = false := by decide +kernel
  have f4 : fbit 10 4 = false := by decide +kernel
  have f5 : fbit 10 5 = false := by decide +kernel
  have HEQ : Hid (takeB 10 (({ zeroR with k := 10 } : OpR), r1) = ((⟨10, V0, 0, 0, 0, 0, ⟨#[]⟩, ⟨#[]⟩⟩ : OpR), q0)) := Lib.hid (by
    simp only [takeB, gto, gnums, gtxts, gnum, gtxt, Nat.add_zero, Nat.reduceAdd, f0, f1, f2, f3, f4, f5, if_true, if_false, Bool.false_eq_true, hV0, hq0]
    try rfl
    try (simp only [OpR.setN, OpR.setT, Nat.reduceEqDiff, if_true, if_false, hV0, hq0]; rfl))
  rw [HEQ.out]
  clear f0 f1 f2 f3 f4 f5
  clear h hd hb1 hn hr1 hV0 hq0
  go_enter Tryd.func62, Tryd.ntmps62
  go_wp2_with fail
  refine HN.out.mono ?_
  rintro e w2 ⟨rfl, h1, h2⟩
  have HQ := Lib.hid (And.intro h1 h2)
  have HRet := Lib.hid (HRB.out.keptBut h2 hrne)
  have HD2 : Hid (Flds w2) := Lib.hid (HD1.out.of_block (h2.block 0 (Nat.lt_of_le_of_lt (Nat.zero_le _) (Nat.lt_of_lt_of_le hlt HB1.out.size)) (by omega)))
  have hsz2 : w.heap.size + 1 ≤ w2.heap.size := Nat.le_trans HSZ1.out h2.size
  have y1 := h1.cells.2.1
  have hblt := h1.lt
  clear h1 h2 hw1
  have hb3 : Below w2.heap.size w2 (w2.alloc (.cells #[.int .i64 10, .int .i64 0, .int .i64 0, .int .i64 0, .int .i64 0, .int .i64 0, .string ⟨#[]⟩, .string ⟨#[]⟩] 30)) := (Below.refl _ _).alloc (Nat.le_refl _) _
  have hbox : OpBox (w2.alloc (.cells #[.int .i64 10, .int .i64 0, .int .i64 0, .int .i64 0, .int .i64 0, .int .i64 0, .string ⟨#[]⟩, .string ⟨#[]⟩] 30)) w2.heap.size ⟨10, 0, 0, 0, 0, 0, ⟨#[]⟩, ⟨#[]⟩⟩ := World.alloc_heap_new _ _
  have HRet3 := Lib.hid (HRet.out.below hb3)
  have hxb : w2.heap.size ≠ b := by omega
  have hxr : w2.heap.size ≠ w.heap.size := by omega
  have hxw : w.heap.size ≤ w2.heap.size := by omega
  have HX := Lib.hid (And.intro hxb (And.intro hxr hxw))
  have HT : Hid (TkS 73 b w.heap.size w2.heap.size B w (⟨10, 0, 0, 0, 0, 0, ⟨#[]⟩, ⟨#[]⟩⟩, r1) (w2.alloc (.cells #[.int .i64 10, .int .i64 0, .int .i64 0, .int .i64 0, .int .i64 0, .int .i64 0, .string ⟨#[]⟩, .string ⟨#[]⟩] 30))) := Lib.hid ⟨HQ.out.1.below hb3, (KeptBut.of_below HB1.out).trans (HQ.out.2.trans (KeptBut.of_below hb3)), hbox, HRet3.out, HD2.out.below hb3, HL.out⟩
  have x1 := HT.out.rd.cells.2.1
  simp only at x1
  clear hb3 hbox hxb hxr hxw y1
  go_wp2_with fail
  refine (HT.out.rnum HX.out.1 hrne hb0 63).mono ?_
  rintro e w5 ⟨rfl, hs⟩
  rw [HV0.out.1]
  rw [HV0.out.2] at hs
  have z := hs.box.frozen
  obtain ⟨z0, z1, z2, z3, z4, z5, z6, z7⟩ := z
  obtain ⟨k0, k1, k2, k3, k4, k5, k6, k7⟩ := hs.box.cells
  simp only at k0 k1 k2 k3 k4 k5 k6 k7
  obtain ⟨W5, hW5⟩ : ∃ W, w5.setCell ⟨w2.heap.size, 1, none⟩ (.int .i64 V0) = W := ⟨_, rfl⟩
  have HS5 : Hid (TkS 73 b w.heap.size w2.heap.size B w ((⟨10, V0, 0, 0, 0, 0, ⟨#[]⟩, ⟨#[]⟩⟩ : OpR), q0) W5) := Lib.hid (by rw [← hW5]; exact hs.setV HX.out.1 HX.out.2.1 HX.out.2.2 (by omega) 1 _ rfl)
  obtain ⟨d0, d1, d2, d3, d4, d5, d6, d7⟩ := HS5.out.box.cells
  simp only at d0 d1 d2 d3 d4 d5 d6 d7
  clear hs  x1
  obtain ⟨i0, i1, i2, i3, i4, i5, i6, i7⟩ := HS5.out.ret.cells
  obtain ⟨g0, g1, g2, g3, g4, g5, g6, g7⟩ := HS5.out.ret.frozen
  go_wp2_with fail
  have HFIN := put8_fin HS5.out.rd HS5.out.kept HS5.out.ret (fun e => hrne e.symm) (Nat.le_refl _) 10 V0 0 0 0 0 ⟨#[]⟩ ⟨#[]⟩
  refine bodyPost_ret (results_cell_row rfl _ _ w.heap.size 30 (OpR.cells ⟨10, V0, 0, 0, 0, 0, ⟨#[]⟩, ⟨#[]⟩⟩) (0, 0) _ rfl HFIN.1 Tryd.underlying30 rfl size_Op) rfl ?_
  exact ⟨_, rfl, fun _ => rfl, HFIN.2⟩

set_option maxHeartbeats 4000000 in
set_option maxRecDepth 100000 in
theorem rtake34_11 (b B : Nat) (r r1 : Rd) (he : r1.e = 0) (hB : r.l.length ≤ B) (hn : (r.num 1073741824).1 = 11) (hr1 : (r.num 1073741824).2 = r1) (hb0 : 0 < b) (w : World) (hd : Flds w) (h : RdAt 73 w b r) :
    Calls Tryd.prog 62 #[.pointer (some ⟨b, 0, none⟩)] w (RTakePost b (takeB 11 (({ zeroR with k := 11 } : OpR), r1)) w) := by
  have hlt := h.lt
  obtain ⟨w1, hw1⟩ : ∃ W, w.alloc (.cells zeroR.cells 30) = W := ⟨_, rfl⟩
  have hb1 : Below w.heap.size w w1 := by rw [← hw1]; exact (Below.refl _ _).alloc (Nat.le_refl _) _
  have HRB : Hid (OpBox w1 w.heap.size zeroR) := Lib.hid (by rw [← hw1]; exact World.alloc_heap_new _ _)
  have HN := Lib.hid (rnum_any' b r 1073741824 w1 (h.below hb1))
  have HB1 := Lib.hid hb1
  have HD1 := Lib.hid (hd.below hb1)
  have HSZ1 : Hid (w.heap.size + 1 ≤ w1.heap.size) := Lib.hid (by rw [← hw1]; simp)
  have HL := Lib.hid (Nat.le_trans (r.num_len 1073741824) hB)
  rw [hn, hr1] at HN
  rw [hr1] at HL
  simp only [zeroR, OpR.cells] at hw1
  have hrne : w.heap.size ≠ b := by omega
  obtain ⟨V0, hV0⟩ : ∃ V, (r1.num 63).1 = V := ⟨_, rfl⟩
  obtain ⟨q0, hq0⟩ : ∃ q, (r1.num 63).2 = q := ⟨_, rfl⟩
  have HV0 := Lib.hid (And.intro hV0 hq0)
  have f0 : fbit 11 0 = false := by decide +kernel
  have f1 : fbit 11 1 = false := by decide +kernel
  have f2 : fbit 11 2 = false := by decide +kernel
  have f3 : fbit 11 3 = false := by decide +kernel
  have f4 : fbit 11 4 = false := by decide +kernel
  have f5 : fbit 11 5 = false := by decide +kernel
  have HEQ : Hid (takeB 11 (({ zeroR with k := 11 } : OpR), r1) = ((⟨11, V0, 0, 0, 0, 0, ⟨#[]⟩, ⟨#[]⟩⟩ : OpR), q0)) := Lib.hid (by
    simp only [takeB, gto, gnums, gtxts, gnum, gtxt, Nat.add_zero, Nat.reduceAdd, f0, f1, f2, f3, f4, f5, if_true, if_false, Bool.false_eq_true, hV0, hq0]
    try rfl
    try (simp only [OpR.setN, OpR.setT, Nat.reduceEqDiff, if_true, if_false, hV0, hq0]; rfl))
  rw [HEQ.out]
  clear f0 f1 f2 f3 f4 f5
  clear h hd hb1 hn hr1 hV0 hq0
  go_enter Tryd.func62, Tryd.ntmps62
  go_wp2_with fail
  refine HN.out.mono ?_
  rintro e w2 ⟨rfl, h1, h2⟩
  have HQ := Lib.hid (And.intro h1 h2)
  have HRet := Lib.hid (HRB.out.keptBut h2 hrne)
  have HD2 : Hid (Flds w2) := Lib.hid (HD1.out.of_block (h2.block 0 (Nat.lt_of_le_of_lt (Nat.zero_le _) (Nat.lt_of_lt_of_le hlt HB1.out.size)) (by omega)))
  have hsz2 : w.heap.size + 1 ≤ w2.heap.size := Nat.le_trans HSZ1.out h2.size
  have y1 := h1.cells.2.1
  have hblt := h1.lt
  clear h1 h2 hw1
  have hb3 : Below w2.heap.size w2 (w2.alloc (.cells #[.int .i64 11, .int .i64 0, .int .i64 0, .int .i64 0, .int .i64 0, .int .i64 0, .string ⟨#[]⟩, .string ⟨#[]⟩] 30)) := (Below.refl _ _).alloc (Nat.le_refl _) _
  have hbox : OpBox (w2.alloc (.cells #[.int .i64 11, .int .i64 0, .int .i64 0, .int .i64 0, .int .i64 0, .int .i64 0, .string ⟨#[]⟩, .string ⟨#[]⟩] 30)) w2.heap.size ⟨11, 0, 0, 0, 0, 0, ⟨#[]⟩, ⟨#[]⟩⟩ := World.alloc_heap_new _ _
  have HRet3 := Lib.hid (HRet.out.below hb3)
  have hxb : w2.heap.size ≠ b := by omega
  have hxr : w2.heap.size ≠ w.heap.size := by omega
  have hxw : w.heap.size ≤ w2.heap.size := by omega
  have HX := Lib.hid (And.intro hxb (And.intro hxr hxw))
  have HT : Hid (TkS 73 b w.heap.size w2.heap.size B w (⟨11, 0, 0, 0, 0, 0, ⟨#[]⟩, ⟨#[]⟩⟩, r1) (w2.alloc (.cells #[.int .i64 11, .int .i64 0, .int .i64 0, .int .i64 0, .int .i64 0, .int .i64 0, .string ⟨#[]⟩, .string ⟨#[]⟩] 30))) := Lib.hid ⟨HQ.out.1.below hb3, (KeptBut.of_below HB1.out).trans (HQ.out.2.trans (KeptBut.of_below hb3)), hbox, HRet3.out, HD2.out.below hb3, HL.out⟩
  have x1 := HT.out.rd.cells.2.1
  simp only at x1
  clear hb3 hbox hxb hxr hxw y1
  go_wp2_with fail
  refine (HT.out.rnum HX.out.1 hrne hb0 63).mono ?_
  rintro e w5 ⟨rfl, hs⟩
  rw [HV0.out.1]
  rw [HV0.out.2] at hs
  have z := hs.box.frozen
  obtain ⟨z0, z1, z2, z3, z4, z5, z6, z7⟩ := z
  obtain ⟨k0, k1, k2, k3, k4, k5, k6, k7⟩ := hs.box.cells
  simp only at k0 k1 k2 k3 k4 k5 k6 k7
  obtain ⟨W5, hW5⟩ : ∃ W, w5.setCell ⟨w2.heap.size, 1, none⟩ (.int .i64 V0) = W := ⟨_, rfl⟩
  have HS5 : Hid (TkS 73 b w.heap.size w2.heap.size B w ((⟨11, V0, 0, 0, 0, 0, ⟨#[]⟩, ⟨#[]⟩⟩ : OpR), q0) W5) := Lib.hid (by rw [← hW5]; exact hs.setV HX.out.1 HX.out.2.1 HX.out.2.2 (by omega) 1 _ rfl)
  obtain ⟨d0, d1, d2, d3, d4, d5, d6, d7⟩ := HS5.out.box.cells
  simp only at d0 d1 d2 d3 d4 d5 d6 d7
  clear hs  x1
  obtain ⟨i0, i1, i2, i3, i4, i5, i6, i7⟩ := HS5.out.ret.cells
  obtain ⟨g0, g1, g2, g3, g4, g5, g6, g7⟩ := HS5.out.ret.frozen
  go_wp2_with fail
  have HFIN := put8_fin HS5.out.rd HS5.out.kept HS5.out.ret (fun e => hrne e.symm) (Nat.le_refl _) 11 V0 0 0 0 0 ⟨#[]⟩ ⟨#[]⟩
  refine bodyPost_ret (results_cell_row rfl _ _ w.heap.size 30 (OpR.cells ⟨11, V0, 0, 0, 0, 0, ⟨#[]⟩, ⟨#[]⟩⟩) (0, 0) _ rfl HFIN.1 Tryd.underlying30 rfl size_Op) rfl ?_
  exact ⟨_, rfl, fun _ => rfl, HFIN.2⟩

set_option maxHeartbeats 4000000 in
set_option maxRecDepth 100000 in
theorem rtake34_12 (b B : Nat) (r r1 : Rd) (he : r1.e = 0) (hB : r.l.length ≤ B) (hn : (r.num 1073741824).1 = 12) (hr1 : (r.num 1073741824).2 = r1) (hb0 : 0 < b) (w : World) (hd : Flds w) (h : RdAt 73 w b r) :
    Calls Tryd.prog 62 #[.pointer (some ⟨b, 0, none⟩)] w (RTakePost b (takeB 12 (({ zeroR with k := 12 } : OpR), r1)) w) := by
  have hlt := h.lt
  obtain ⟨w1, hw1⟩ : ∃ W, w.alloc (.cells zeroR.cells 30) = W := ⟨_, rfl⟩
  have hb1 : Below w.heap.size w w1 := by rw [← hw1]; exact (Below.refl _ _).alloc (Nat.le_refl _) _
  have HRB : Hid (OpBox w1 w.heap.size zeroR) := Lib.hid (by rw [← hw1]; exact World.alloc_heap_new _ _)
  have HN := Lib.hid (rnum_any' b r 1073741824 w1 (h.below hb1))
  have HB1 := Lib.hid hb1
  have HD1 := Lib.hid (hd.below hb1)
  have HSZ1 : Hid (w.heap.size + 1 ≤ w1.heap.size) := Lib.hid (by rw [← hw1]; simp)
  have HL := Lib.hid (Nat.le_trans (r.num_len 1073741824) hB)
  rw [hn, hr1] at HN
  rw [hr1] at HL
  simp only [zeroR, OpR.cells] at hw1
  have hrne : w.heap.size ≠ b := by omega
  obtain ⟨V0, hV0⟩ : ∃ V, (r1.num 63).1 = V := ⟨_, rfl⟩
  obtain ⟨q0, hq0⟩ : ∃ q, (r1.num 63).2 = q := ⟨_, rfl⟩
  have HV0 := Lib.hid (And.intro hV0 hq0)
  have f0 : fbit 12 0 = false := by decide +kernel
  have f1 : fbit 12 1 = false := by decide +kernel
  have f2 : fbit 12 2 = false := by decide +kernel
  have f3 : fbit 12 3 = false := by decide +kernel
  have f4 : fbit 12 4 = false := by decide +kernel
  have f5 : fbit 12 5 = false := by decide +kernel
  have HEQ : Hid (takeB 12 (({ zeroR with k := 12 } : OpR), r1) = ((⟨12, V0, 0, 0, 0, 0, ⟨#[]⟩, ⟨#[]⟩⟩ : OpR), q0)) := Lib.hid (by
    simp only [takeB, gto, gnums, gtxts, gnum, gtxt, Nat.add_zero, Nat.reduceAdd, f0, f1, f2, f3, f4, f5, if_true, if_false, Bool.false_eq_true, hV0, hq0]
    try rfl
    try (simp only [OpR.setN, OpR.setT, Nat.reduceEqDiff, if_true, if_false, hV0, hq0]; rfl))
  rw [HEQ.out]
  clear f0 f1 f2 f3 f4 f5
  clear h hd hb1 hn hr1 hV0 hq0
  go_enter Tryd.func62, Tryd.ntmps62
  go_wp2_with fail
  refine HN.out.mono ?_
  rintro e w2 ⟨rfl, h1, h2⟩
  have HQ := Lib.hid (And.intro h1 h2)
  have HRet := Lib.hid (HRB.out.keptBut h2 hrne)
  have HD2 : Hid (Flds w2) := Lib.hid (HD1.out.of_block (h2.block 0 (Nat.lt_of_le_of_lt (Nat.zero_le _) (Nat.lt_of_lt_of_le hlt HB1.out.size)) (by omega)))
  have hsz2 : w.heap.size + 1 ≤ w2.heap.size := Nat.le_trans HSZ1.out h2.size
  have y1 := h1.cells.2.1
  have hblt := h1.lt
  clear h1 h2 hw1
  have hb3 : Below w2.heap.size w2 (w2.alloc (.cells #[.int .i64 12, .int .i64 0, .int .i64 0, .int .i64 0, .int .i64 0, .int .i64 0, .string ⟨#[]⟩, .string ⟨#[]⟩] 30)) := (Below.refl _ _).alloc (Nat.le_refl _) _
  have hbox : OpBox (w2.alloc (.cells #[.int .i64 12, .int .i64 0, .int .i64 0, .int .i64 0, .int .i64 0, .int .i64 0, .string ⟨#[]⟩, .string ⟨#[]⟩] 30)) w2.heap.size ⟨12, 0, 0, 0, 0, 0, ⟨#[]⟩, ⟨#[]⟩⟩ := World.alloc_heap_new _ _
  have HRet3 := Lib.hid (HRet.out.below hb3)
  have hxb : w2.heap.size ≠ b := by omega
  have hxr : w2.heap.size ≠ w.heap.size := by omega
  have hxw : w.heap.size ≤ w2.heap.size := by omega
  have HX := Lib.hid (And.intro hxb (And.intro hxr hxw))
  have HT : Hid (TkS 73 b w.heap.size w2.heap.size B w (⟨12, 0, 0, 0, 0, 0, ⟨#[]⟩, ⟨#[]⟩⟩, r1) (w2.alloc (.cells #[.int .i64 12, .int .i64 0, .int .i64 0, .int .i64 0, .int .i64 0, .int .i64 0, .string ⟨#[]⟩, .string ⟨#[]⟩] 30))) := Lib.hid ⟨HQ.out.1.below hb3, (KeptBut.of_below HB1.out).trans (HQ.out.2.trans (KeptBut.of_below hb3)), hbox, HRet3.out, HD2.out.below hb3, HL.out⟩
  have x1 := HT.out.rd.cells.2.1
  simp only at x1
  clear hb3 hbox hxb hxr hxw y1
  go_wp2_with fail
  refine (HT.out.rnum HX.out.1 hrne hb0 63).mono ?_
  rintro e w5 ⟨rfl, hs⟩
  rw [HV0.out.1]
  rw [HV0.out.2] at hs
  have z := hs.box.frozen
  obtain ⟨z0, z1, z2, z3, z4, z5, z6, z7⟩ := z
  obtain ⟨k0, k1, k2, k3, k4, k5, k6, k7⟩ := hs.box.cells
  simp only at k0 k1 k2 k3 k4 k5 k6 k7
  obtain ⟨W5, hW5⟩ : ∃ W, w5.setCell ⟨w2.heap.size, 1, none⟩ (.int .i64 V0) = W := ⟨_, rfl⟩
  have HS5 : Hid (TkS 73 b w.heap.size w2.heap.size B w ((⟨12, V0, 0, 0, 0, 0, ⟨#[]⟩, ⟨#[]⟩⟩ : OpR), q0) W5) := Lib.hid (by rw [← hW5]; exact hs.setV HX.out.1 HX.out.2.1 HX.out.2.2 (by omega) 1 _ rfl)
  obtain ⟨d0, d1, d2, d3, d4, d5, d6, d7⟩ := HS5.out.box.cells
  simp only at d0 d1 d2 d3 d4 d5 d6 d7
  clear hs  x1
  obtain ⟨i0, i1, i2, i3, i4, i5, i6, i7⟩ := HS5.out.ret.cells
  obtain ⟨g0, g1, g2, g3, g4, g5, g6, g7⟩ := HS5.out.ret.frozen
  go_wp2_with fail
  have HFIN := put8_fin HS5.out.rd HS5.out.kept HS5.out.ret (fun e => hrne e.symm) (Nat.le_refl _) 12 V0 0 0 0 0 ⟨#[]⟩ ⟨#[]⟩
  refine bodyPost_ret (results_cell_row rfl _ _ w.heap.size 30 (OpR.cells ⟨12, V0, 0, 0, 0, 0, ⟨#[]⟩, ⟨#[]⟩⟩) (0, 0) _ rfl HFIN.1 Tryd.underlying30 rfl size_Op) rfl ?_
  exact ⟨_, rfl, fun _ => rfl, HFIN.2⟩

set_option maxHeartbeats 4000000 in
set_option maxRecDepth 100000 in
theorem rtake34_e (b B : Nat) (r r1 : Rd) (he : r1.e ≠ 0) (hB : r.l.length ≤ B) (hn : (r.num 1073741824).1 = 0) (hr1 : (r.num 1073741824).2 = r1) (hb0 : 0 < b) (w : World) (hd : Flds w) (h : RdAt 73 w b r) :
    Calls Tryd.prog 62 #[.pointer (some ⟨b, 0, none⟩)] w (RTakePost b (zeroR, r1) w) := by
  have hlt := h.lt
  obtain ⟨w1, hw1⟩ : ∃ W, w.alloc (.cells zeroR.cells 30) = W := ⟨_, rfl⟩
  have hb1 : Below w.heap.size w w1 := by rw [← hw1]; exact (Below.refl _ _).alloc (Nat.le_refl _) _
  have HRB : Hid (OpBox w1 w.heap.size zeroR) := Lib.hid (by rw [← hw1]; exact World.alloc_heap_new _ _)
  have HN := Lib.hid (rnum_any' b r 1073741824 w1 (h.below hb1))
  have HB1 := Lib.hid hb1
  have HD1 := Lib.hid (hd.below hb1)
  have HSZ1 : Hid (w.heap.size + 1 ≤ w1.heap.size) := Lib.hid (by rw [← hw1]; simp)
  have HL := Lib.hid (Nat.le_trans (r.num_len 1073741824) hB)
  rw [hn, hr1] at HN
  rw [hr1] at HL
  simp only [zeroR, OpR.cells] at hw1
  have hrne : w.heap.size ≠ b := by omega
  obtain ⟨V0, hV0⟩ : ∃ V, (r1.num 63).1 = V := ⟨_, rfl⟩
  obtain ⟨q0, hq0⟩ : ∃ q, (r1.num 63).2 = q := ⟨_, rfl⟩
  have HV0 := Lib.hid (And.intro hV0 hq0)
  obtain ⟨LV1, hLV1⟩ : ∃ V, (q0.txt 255).1 = V := ⟨_, rfl⟩
  obtain ⟨V1, hV1⟩ : ∃ V, bs LV1 = V := ⟨_, rfl⟩
  obtain ⟨q1, hq1⟩ : ∃ q, (q0.txt 255).2 = q := ⟨_, rfl⟩
  have HV1 := Lib.hid (And.intro (And.intro hLV1 hV1) hq1)
  obtain ⟨LV2, hLV2⟩ : ∃ V, (q1.txt 255).1 = V := ⟨_, rfl⟩
  obtain ⟨V2, hV2⟩ : ∃ V, bs LV2 = V := ⟨_, rfl⟩
  obtain ⟨q2, hq2⟩ : ∃ q, (q1.txt 255).2 = q := ⟨_, rfl⟩
  have HV2 := Lib.hid (And.intro (And.intro hLV2 hV2) hq2)
  have HEQ : Hid ((⟨0, V0, 0, 0, 0, 0, V1, V2⟩ : OpR) = zeroR ∧ q2 = r1) := Lib.hid (by
    rw [Rd.num_stop r1 he] at hV0
    rw [Rd.num_stop r1 he] at hq0
    simp only at hq0 hV0
    subst hq0
    subst hV0
    rw [Rd.txt_stop r1 he] at hLV1
    rw [Rd.txt_stop r1 he] at hq1
    simp only at hq1 hLV1
    subst hq1
    subst hLV1
    subst hV1
    rw [Rd.txt_stop r1 he] at hLV2
    rw [Rd.txt_stop r1 he] at hq2
    simp only at hq2 hLV2
    subst hq2
    subst hLV2
    subst hV2
    exact ⟨rfl, rfl⟩)
  have he2 : (r1.e == 0) = false := by simpa using he
  have he3 : (r1.e != 0) = true := by simpa using he
  clear h hd hb1 hn hr1 hV0 hq0 hLV1 hV1 hq1 hLV2 hV2 hq2 he
  go_enter Tryd.func62, Tryd.ntmps62
  go_wp2_with fail
  refine HN.out.mono ?_
  rintro e w2 ⟨rfl, h1, h2⟩
  have HQ := Lib.hid (And.intro h1 h2)
  have HRet := Lib.hid (HRB.out.keptBut h2 hrne)
  have HD2 : Hid (Flds w2) := Lib.hid (HD1.out.of_block (h2.block 0 (Nat.lt_of_le_of_lt (Nat.zero_le _) (Nat.lt_of_lt_of_le hlt HB1.out.size)) (by omega)))
  have hsz2 : w.heap.size + 1 ≤ w2.heap.size := Nat.le_trans HSZ1.out h2.size
  have y1 := h1.cells.2.1
  have hblt := h1.lt
  clear h1 h2 hw1
  have hb3 : Below w2.heap.size w2 (w2.alloc (.cells #[.int .i64 0, .int .i64 0, .int .i64 0, .int .i64 0, .int .i64 0, .int .i64 0, .string ⟨#[]⟩, .string ⟨#[]⟩] 30)) := (Below.refl _ _).alloc (Nat.le_refl _) _
  have hbox : OpBox (w2.alloc (.cells #[.int .i64 0, .int .i64 0, .int .i64 0, .int .i64 0, .int .i64 0, .int .i64 0, .string ⟨#[]⟩, .string ⟨#[]⟩] 30)) w2.heap.size ⟨0, 0, 0, 0, 0, 0, ⟨#[]⟩, ⟨#[]⟩⟩ := World.alloc_heap_new _ _
  have HRet3 := Lib.hid (HRet.out.below hb3)
  have hxb : w2.heap.size ≠ b := by omega
  have hxr : w2.heap.size ≠ w.heap.size := by omega
  have hxw : w.heap.size ≤ w2.heap.size := by omega
  have HX := Lib.hid (And.intro hxb (And.intro hxr hxw))
  have HT : Hid (TkS 73 b w.heap.size w2.heap.size B w (⟨0, 0, 0, 0, 0, 0, ⟨#[]⟩, ⟨#[]⟩⟩, r1) (w2.alloc (.cells #[.int .i64 0, .int .i64 0, .int .i64 0, .int .i64 0, .int .i64 0, .int .i64 0, .string ⟨#[]⟩, .string ⟨#[]⟩] 30))) := Lib.hid ⟨HQ.out.1.below hb3, (KeptBut.of_below HB1.out).trans (HQ.out.2.trans (KeptBut.of_below hb3)), hbox, HRet3.out, HD2.out.below hb3, HL.out⟩
  have x1 := HT.out.rd.cells.2.1
  simp only at x1
  clear hb3 hbox hxb hxr hxw y1
  go_wp2_with fail
  refine (HT.out.rnum HX.out.1 hrne hb0 63).mono ?_
  rintro e w5 ⟨rfl, hs⟩
  rw [HV0.out.1]
  rw [HV0.out.2] at hs
  have z := hs.box.frozen
  obtain ⟨z0, z1, z2, z3, z4, z5, z6, z7⟩ := z
  obtain ⟨k0, k1, k2, k3, k4, k5, k6, k7⟩ := hs.box.cells
  simp only at k0 k1 k2 k3 k4 k5 k6 k7
  obtain ⟨W5, hW5⟩ : ∃ W, w5.setCell ⟨w2.heap.size, 1, none⟩ (.int .i64 V0) = W := ⟨_, rfl⟩
  have HS5 : Hid (TkS 73 b w.heap.size w2.heap.size B w ((⟨0, V0, 0, 0, 0, 0, ⟨#[]⟩, ⟨#[]⟩⟩ : OpR), q0) W5) := Lib.hid (by rw [← hW5]; exact hs.setV HX.out.1 HX.out.2.1 HX.out.2.2 (by omega) 1 _ rfl)
  obtain ⟨d0, d1, d2, d3, d4, d5, d6, d7⟩ := HS5.out.box.cells
  simp only at d0 d1 d2 d3 d4 d5 d6 d7
  clear hs  x1
  go_wp2_with fail
  refine (HS5.out.rtxt HX.out.1 hrne hb0 255).mono ?_
  rintro e w6 ⟨rfl, hs⟩
  rw [HV1.out.1.1, HV1.out.1.2]
  rw [HV1.out.2] at hs
  have z := hs.box.frozen
  obtain ⟨z0, z1, z2, z3, z4, z5, z6, z7⟩ := z
  obtain ⟨k0, k1, k2, k3, k4, k5, k6, k7⟩ := hs.box.cells
  simp only at k0 k1 k2 k3 k4 k5 k6 k7
  obtain ⟨W6, hW6⟩ : ∃ W, w6.setCell ⟨w2.heap.size, 6, none⟩ (.string V1) = W := ⟨_, rfl⟩
  have HS6 : Hid (TkS 73 b w.heap.size w2.heap.size B w ((⟨0, V0, 0, 0, 0, 0, V1, ⟨#[]⟩⟩ : OpR), q1) W6) := Lib.hid (by rw [← hW6]; exact hs.setV HX.out.1 HX.out.2.1 HX.out.2.2 (by omega) 6 _ rfl)
  obtain ⟨c0, c1, c2, c3, c4, c5, c6, c7⟩ := HS6.out.box.cells
  simp only at c0 c1 c2 c3 c4 c5 c6 c7
  clear hs d0 d1 d2 d3 d4 d5 d6 d7 hW5
  go_wp2_with fail
  refine (HS6.out.rtxt HX.out.1 hrne hb0 255).mono ?_
  rintro e w7 ⟨rfl, hs⟩
  rw [HV2.out.1.1, HV2.out.1.2]
  rw [HV2.out.2] at hs
  have z := hs.box.frozen
  obtain ⟨z0, z1, z2, z3, z4, z5, z6, z7⟩ := z
  obtain ⟨k0, k1, k2, k3, k4, k5, k6, k7⟩ := hs.box.cells
  simp only at k0 k1 k2 k3 k4 k5 k6 k7
  obtain ⟨W7, hW7⟩ : ∃ W, w7.setCell ⟨w2.heap.size, 7, none⟩ (.string V2) = W := ⟨_, rfl⟩
  have HS7 : Hid (TkS 73 b w.heap.size w2.heap.size B w ((⟨0, V0, 0, 0, 0, 0, V1, V2⟩ : OpR), q2) W7) := Lib.hid (by rw [← hW7]; exact hs.setV HX.out.1 HX.out.2.1 HX.out.2.2 (by omega) 7 _ rfl)
  obtain ⟨d0, d1, d2, d3, d4, d5, d6, d7⟩ := HS7.out.box.cells
  simp only at d0 d1 d2 d3 d4 d5 d6 d7
  clear hs c0 c1 c2 c3 c4 c5 c6 c7 hW6
  obtain ⟨i0, i1, i2, i3, i4, i5, i6, i7⟩ := HS7.out.ret.cells
  obtain ⟨g0, g1, g2, g3, g4, g5, g6, g7⟩ := HS7.out.ret.frozen
  go_wp2_with fail
  have HFIN := put8_fin HS7.out.rd HS7.out.kept HS7.out.ret (fun e => hrne e.symm) (Nat.le_refl _) 0 V0 0 0 0 0 V1 V2
  refine bodyPost_ret (results_cell_row rfl _ _ w.heap.size 30 (OpR.cells ⟨0, V0, 0, 0, 0, 0, V1, V2⟩) (0, 0) _ rfl HFIN.1 Tryd.underlying30 rfl size_Op) rfl ?_
  refine ⟨_, rfl, fun h => ?_, ?_, HFIN.2.2⟩
  · exact HEQ.out.1
  · have h := HFIN.2.1
    rw [HEQ.out.2] at h
    exact h

set_option maxHeartbeats 4000000 in
set_option maxRecDepth 100000 in
theorem rtake34_k (b B : Nat) (r r1 : Rd) (n : Nat) (h12 : 12 < (n : Int)) (he : r1.e = 0) (hB : r.l.length ≤ B) (hn : (r.num 1073741824).1 = n) (hr1 : (r.num 1073741824).2 = r1) (hb0 : 0 < b) (w : World) (hd : Flds w) (h : RdAt 73 w b r) :
    Calls Tryd.prog 62 #[.pointer (some ⟨b, 0, none⟩)] w (RTakePost b (({ zeroR with k := (n : Int) } : OpR), ⟨r1.l, 15⟩) w) := by
  have hlt := h.lt
  obtain ⟨w1, hw1⟩ : ∃ W, w.alloc (.cells zeroR.cells 30) = W := ⟨_, rfl⟩
  have hb1 : Below w.heap.size w w1 := by rw [← hw1]; exact (Below.refl _ _).alloc (Nat.le_refl _) _
  have HRB : Hid (OpBox w1 w.heap.size zeroR) := Lib.hid (by rw [← hw1]; exact World.alloc_heap_new _ _)
  have HN := Lib.hid (rnum_any' b r 1073741824 w1 (h.below hb1))
  have HB1 := Lib.hid hb1
  have HD1 := Lib.hid (hd.below hb1)
  have HSZ1 : Hid (w.heap.size + 1 ≤ w1.heap.size) := Lib.hid (by rw [← hw1]; simp)
  have HL := Lib.hid (Nat.le_trans (r.num_len 1073741824) hB)
  rw [hn, hr1] at HN
  rw [hr1] at HL
  simp only [zeroR, OpR.cells] at hw1
  have hrne : w.heap.size ≠ b := by omega
  obtain ⟨r1b, hr1b⟩ : ∃ q : Rd, (⟨r1.l, 15⟩ : Rd) = q := ⟨_, rfl⟩
  have HFA : Hid (r1.fail 15 = r1b) := Lib.hid (by rw [Rd.fail_zero r1 he]; exact hr1b)
  have hq0 : r1b.e ≠ 0 := by rw [← hr1b]; simp
  have HSTOP : Hid (r1b.num 63 = (0, r1b)) := Lib.hid (r1b.num_stop hq0 63)
  obtain ⟨V0, hV0⟩ : ∃ V, (r1b.num 63).1 = V := ⟨_, rfl⟩
  obtain ⟨q0, hq0'⟩ : ∃ q, (r1b.num 63).2 = q := ⟨_, rfl⟩
  have HV0 := Lib.hid (And.intro hV0 hq0')
  have HEQ : Hid ((⟨n, V0, 0, 0, 0, 0, ⟨#[]⟩, ⟨#[]⟩⟩ : OpR) = (({ zeroR with k := (n : Int) } : OpR)) ∧ q0 = ⟨r1.l, 15⟩) := Lib.hid (by
    have e := HSTOP.out
    rw [e] at hV0
    rw [e] at hq0'
    simp only at hV0 hq0'
    subst hV0
    subst hq0'
    exact ⟨rfl, hr1b.symm⟩)
  clear h hd hb1 hn hr1 hV0 hq0' hr1b hq0
  go_enter Tryd.func62, Tryd.ntmps62
  go_wp2_with fail
  refine HN.out.mono ?_
  rintro e w2 ⟨rfl, h1, h2⟩
  have HQ := Lib.hid (And.intro h1 h2)
  have HRet := Lib.hid (HRB.out.keptBut h2 hrne)
  have HD2 : Hid (Flds w2) := Lib.hid (HD1.out.of_block (h2.block 0 (Nat.lt_of_le_of_lt (Nat.zero_le _) (Nat.lt_of_lt_of_le hlt HB1.out.size)) (by omega)))
  have hsz2 : w.heap.size + 1 ≤ w2.heap.size := Nat.le_trans HSZ1.out h2.size
  have y1 := h1.cells.2.1
  have hblt := h1.lt
  clear h1 h2 hw1
  have hb3 : Below w2.heap.size w2 (w2.alloc (.cells #[.int .i64 n, .int .i64 0, .int .i64 0, .int .i64 0, .int .i64 0, .int .i64 0, .string ⟨#[]⟩, .string ⟨#[]⟩] 30)) := (Below.refl _ _).alloc (Nat.le_refl _) _
  have hbox : OpBox (w2.alloc (.cells #[.int .i64 n, .int .i64 0, .int .i64 0, .int .i64 0, .int .i64 0, .int .i64 0, .string ⟨#[]⟩, .string ⟨#[]⟩] 30)) w2.heap.size ⟨n, 0, 0, 0, 0, 0, ⟨#[]⟩, ⟨#[]⟩⟩ := World.alloc_heap_new _ _
  have HRet3 := Lib.hid (HRet.out.below hb3)
  have hxb : w2.heap.size ≠ b := by omega
  have hxr : w2.heap.size ≠ w.heap.size := by omega
  have hxw : w.heap.size ≤ w2.heap.size := by omega
  have HX := Lib.hid (And.intro hxb (And.intro hxr hxw))
  have HT : Hid (TkS 73 b w.heap.size w2.heap.size B w (⟨n, 0, 0, 0, 0, 0, ⟨#[]⟩, ⟨#[]⟩⟩, r1) (w2.alloc (.cells #[.int .i64 n, .int .i64 0, .int .i64 0, .int .i64 0, .int .i64 0, .int .i64 0, .string ⟨#[]⟩, .string ⟨#[]⟩] 30))) := Lib.hid ⟨HQ.out.1.below hb3, (KeptBut.of_below HB1.out).trans (HQ.out.2.trans (KeptBut.of_below hb3)), hbox, HRet3.out, HD2.out.below hb3, HL.out⟩
  have x1 := HT.out.rd.cells.2.1
  simp only at x1
  clear hb3 hbox hxb hxr hxw y1
  go_wp2_with fail
  refine (rfail_any' b r1 15 _ HT.out.rd).mono ?_
  rintro e w4 ⟨rfl, h1, h2⟩
  rw [HFA.out] at h1
  have HT4 : Hid (TkS 73 b w.heap.size w2.heap.size B w (⟨n, 0, 0, 0, 0, 0, ⟨#[]⟩, ⟨#[]⟩⟩, r1b) w4) := Lib.hid (HT.out.step HX.out.1 hrne hb0 h1 h2 (by rw [← HFA.out]; unfold Rd.fail; split <;> exact Nat.le_refl _))
  obtain ⟨d0, d1, d2, d3, d4, d5, d6, d7⟩ := HT4.out.box.cells
  simp only at d0 d1 d2 d3 d4 d5 d6 d7
  clear h1 h2 x1
  have t4 : ¬ (n : Int) ≤ 7 := by omega
  have t9 : ¬ (n : Int) ≤ 9 := by omega
  have t3 : (4 : Int) ≤ n := by omega
  have t1 : (2 : Int) ≤ n := by omega
  have t2 : ¬ (n : Int) < 2 := by omega
  have t7 : ((n : Int) == 7) = false := by simp; omega
  have t8 : ((n : Int) == 9) = false := by simp; omega
  have t0 : ((n : Int) == 0) = false := by simp; omega
  go_wp2_with fail
  refine (HT4.out.rnum HX.out.1 hrne hb0 63).mono ?_
  rintro e w5 ⟨rfl, hs⟩
  rw [HV0.out.1]
  rw [HV0.out.2] at hs
  have z := hs.box.frozen
  obtain ⟨z0, z1, z2, z3, z4, z5, z6, z7⟩ := z
  obtain ⟨k0, k1, k2, k3, k4, k5, k6, k7⟩ := hs.box.cells
  simp only at k0 k1 k2 k3 k4 k5 k6 k7
  obtain ⟨W5, hW5⟩ : ∃ W, w5.setCell ⟨w2.heap.size, 1, none⟩ (.int .i64 V0) = W := ⟨_, rfl⟩
  have HS5 : Hid (TkS 73 b w.heap.size w2.heap.size B w ((⟨n, V0, 0, 0, 0, 0, ⟨#[]⟩, ⟨#[]⟩⟩ : OpR), q0) W5) := Lib.hid (by rw [← hW5]; exact hs.setV HX.out.1 HX.out.2.1 HX.out.2.2 (by omega) 1 _ rfl)
  obtain ⟨c0, c1, c2, c3, c4, c5, c6, c7⟩ := HS5.out.box.cells
  simp only at c0 c1 c2 c3 c4 c5 c6 c7
  clear hs d0 d1 d2 d3 d4 d5 d6 d7 
  obtain ⟨i0, i1, i2, i3, i4, i5, i6, i7⟩ := HS5.out.ret.cells
  obtain ⟨g0, g1, g2, g3, g4, g5, g6, g7⟩ := HS5.out.ret.frozen
  go_wp2_with fail
  have HFIN := put8_fin HS5.out.rd HS5.out.kept HS5.out.ret (fun e => hrne e.symm) (Nat.le_refl _) n V0 0 0 0 0 ⟨#[]⟩ ⟨#[]⟩
  refine bodyPost_ret (results_cell_row rfl _ _ w.heap.size 30 (OpR.cells ⟨n, V0, 0, 0, 0, 0, ⟨#[]⟩, ⟨#[]⟩⟩) (0, 0) _ rfl HFIN.1 Tryd.underlying30 rfl size_Op) rfl ?_
  refine ⟨_, rfl, fun h => ?_, ?_, HFIN.2.2⟩
  · exact HEQ.out.1
  · have h := HFIN.2.1
    rw [HEQ.out.2] at h
    exact h

theorem rtake34_any (b B : Nat) (r : Rd) (hB : r.l.length ≤ B) (hb0 : 0 < b) (w : World) (hd : Flds w) (h : RdAt 73 w b r) :
    Calls Tryd.prog 62 #[.pointer (some ⟨b, 0, none⟩)] w (RTakePost b r.op w) := by
  obtain ⟨n, hn, hn30⟩ := r.num_nat 1073741824
  obtain ⟨r1, hr1⟩ : ∃ r1, (r.num 1073741824).2 = r1 := ⟨_, rfl⟩
  unfold Rd.op
  rw [hr1, hn]
  simp only [Int.toNat_natCast]
  by_cases he : r1.e = 0
  · rw [if_neg (by simpa using he)]
    by_cases h12 : 12 < (n : Int)
    · rw [if_pos h12]
      refine (rtake34_k b B r r1 n h12 he hB hn hr1 hb0 w hd h).mono ?_
      rintro e w' ⟨y, rfl, h1, h2, h3⟩
      exact ⟨y, rfl, fun h => absurd h (by simp), h2, h3⟩
    · rw [if_neg h12]
      rcases (show n = 0 ∨ n = 1 ∨ n = 2 ∨ n = 3 ∨ n = 4 ∨ n = 5 ∨ n = 6 ∨ n = 7 ∨ n = 8 ∨ n = 9 ∨ n = 10 ∨ n = 11 ∨ n = 12 by omega) with rfl | rfl | rfl | rfl | rfl | rfl | rfl | rfl | rfl | rfl | rfl | rfl | rfl
      · exact rtake34_0 b B r r1 he hB hn hr1 hb0 w hd h
      · exact rtake34_1 b B r r1 he hB hn hr1 hb0 w hd h
      · exact rtake34_2 b B r r1 he hB hn hr1 hb0 w hd h
      · exact rtake34_3 b B r r1 he hB hn hr1 hb0 w hd h
      · exact rtake34_4 b B r r1 he hB hn hr1 hb0 w hd h
      · exact rtake34_5 b B r r1 he hB hn hr1 hb0 w hd h
      · exact rtake34_6 b B r r1 he hB hn hr1 hb0 w hd h
      · exact rtake34_7 b B r r1 he hB hn hr1 hb0 w hd h
      · exact rtake34_8 b B r r1 he hB hn hr1 hb0 w hd h
      · exact rtake34_9 b B r r1 he hB hn hr1 hb0 w hd h
      · exact rtake34_10 b B r r1 he hB hn hr1 hb0 w hd h
      · exact rtake34_11 b B r r1 he hB hn hr1 hb0 w hd h
      · exact rtake34_12 b B r r1 he hB hn hr1 hb0 w hd h
  · rw [if_pos he]
    have hn0 : (r.num 1073741824).1 = 0 := by
      unfold Rd.num at hr1 ⊢
      split
      · rfl
      · rename_i h1
        rw [if_neg h1] at hr1
        split
        · rfl
        · rename_i h2
          rw [if_neg h2] at hr1
          exact absurd (by rw [← hr1]) he
    exact rtake34_e b B r r1 he hB hn0 hr1 hb0 w hd h
end Go.Proofs.YtjmfdacnaodfdaaDoor
