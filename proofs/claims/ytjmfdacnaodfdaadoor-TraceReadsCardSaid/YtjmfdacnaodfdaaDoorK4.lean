/- package ops: take. -/
import Derived.Test.YtjmfdacnaodfdaaDoorK3
namespace Go.Proofs.YtjmfdacnaodfdaaDoor
set_option linter.unusedVariables false
set_option linter.unusedSimpArgs false
open Go.RowKit

theorem index3p_0 (g o0 o1 o2 : Nat) (w : World) : (Instr.index 114 (.agg #[.pointer (some ⟨g, o0, none⟩), .pointer (some ⟨g, o1, none⟩), .pointer (some ⟨g, o2, none⟩)]) (.int .i64 0)).run Tryd.prog w = .ok (.pointer (some ⟨g, o0, none⟩)) w := by
  kernel_rfl
theorem index3p_1 (g o0 o1 o2 : Nat) (w : World) : (Instr.index 114 (.agg #[.pointer (some ⟨g, o0, none⟩), .pointer (some ⟨g, o1, none⟩), .pointer (some ⟨g, o2, none⟩)]) (.int .i64 1)).run Tryd.prog w = .ok (.pointer (some ⟨g, o1, none⟩)) w := by
  kernel_rfl
theorem index3p_2 (g o0 o1 o2 : Nat) (w : World) : (Instr.index 114 (.agg #[.pointer (some ⟨g, o0, none⟩), .pointer (some ⟨g, o1, none⟩), .pointer (some ⟨g, o2, none⟩)]) (.int .i64 2)).run Tryd.prog w = .ok (.pointer (some ⟨g, o2, none⟩)) w := by
  kernel_rfl
theorem index2p_0 (g o0 o1 : Nat) (w : World) : (Instr.index 116 (.agg #[.pointer (some ⟨g, o0, none⟩), .pointer (some ⟨g, o1, none⟩)]) (.int .i64 0)).run Tryd.prog w = .ok (.pointer (some ⟨g, o0, none⟩)) w := by
  kernel_rfl
theorem index2p_1 (g o0 o1 : Nat) (w : World) : (Instr.index 116 (.agg #[.pointer (some ⟨g, o0, none⟩), .pointer (some ⟨g, o1, none⟩)]) (.int .i64 1)).run Tryd.prog w = .ok (.pointer (some ⟨g, o1, none⟩)) w := by
  kernel_rfl
def TakePost (T : TypeId) (b : Nat) (s : OpR × Rd) (w : World) (v : Ending) (w' : World) : Prop := v = .returned (.agg s.1.cells) ∧ RdAt T w' b s.2 ∧ KeptBut b w w'
set_option maxHeartbeats 8000000 in
set_option maxRecDepth 100000 in
theorem otake_any (b B : Nat) (r : Rd) (hB : r.l.length ≤ B) (hBB : B ≤ 9223372036854775807) (hb0 : 0 < b) (w : World) (hd : Flds w) (h : RdAt 88 w b r) :
    Calls Tryd.prog 71 #[.pointer (some ⟨b, 0, none⟩)] w (TakePost 88 b r.op w) := by
  have hlt := h.lt
  obtain ⟨w1, hw1⟩ : ∃ W, w.alloc (.cells zeroR.cells 30) = W := ⟨_, rfl⟩
  have hb1 : Below w.heap.size w w1 := by rw [← hw1]; exact (Below.refl _ _).alloc (Nat.le_refl _) _
  have HRB : Hid (OpBox w1 w.heap.size zeroR) := Lib.hid (by rw [← hw1]; exact World.alloc_heap_new _ _)
  have HN := Lib.hid (cnum_any b r 1073741824 w1 (h.below hb1))
  have HB1 := Lib.hid hb1
  have HD1 := Lib.hid (hd.below hb1)
  have HSZ1 : Hid (w.heap.size + 1 ≤ w1.heap.size) := Lib.hid (by rw [← hw1]; simp)
  have HL := Lib.hid (Nat.le_trans (r.num_len 1073741824) hB)
  obtain ⟨n, hn, hn30⟩ := r.num_nat 1073741824
  obtain ⟨r1, hr1⟩ : ∃ r1, (r.num 1073741824).2 = r1 := ⟨_, rfl⟩
  have HOP : Hid (r.op = if r1.e ≠ 0 then (zeroR, r1) else if 12 < (n : Int) then (zeroR, ⟨r1.l, 15⟩) else takeB n ({ zeroR with k := (n : Int) }, r1)) := Lib.hid (by unfold Rd.op; rw [hr1, hn]; simp only [Int.toNat_natCast])
  rw [hn, hr1] at HN
  rw [hr1] at HL
  simp only [zeroR, OpR.cells] at hw1
  have hrne : w.heap.size ≠ b := by omega
  have HI : Hid ((Tryd.prog.info? 30).map (·.size) = some 8) := Lib.hid (by kernel_rfl)
  by_cases he : r1.e = 0
  · by_cases h12 : 12 < (n : Int)
    · have HF : Hid (r.op = (zeroR, ⟨r1.l, 15⟩)) := Lib.hid (by rw [HOP.out, if_neg (by simpa using he), if_pos h12])
      rw [HF.out]
      have HKIND := fun w' => Lib.hid (kind_any (n : Int) w')
      rw [show kindB (n : Int) = false by simp [kindB]; omega] at HKIND
      clear HOP h hd hn hr1 hb1
      go_enter Tryd.func71, Tryd.ntmps71
      go_wp2_with fail
      refine HN.out.mono ?_
      rintro e w2 ⟨rfl, h1, h2⟩
      have HQ := Lib.hid (And.intro h1 h2)
      have HRet := Lib.hid (HRB.out.keptBut h2 hrne)
      have HD2 : Hid (Flds w2) := Lib.hid (HD1.out.of_block (h2.block 0 (Nat.lt_of_le_of_lt (Nat.zero_le _) (Nat.lt_of_lt_of_le hlt HB1.out.size)) (by omega)))
      have hsz2 : w.heap.size + 1 ≤ w2.heap.size := Nat.le_trans HSZ1.out h2.size
      clear h1 h2 hw1
      have HERR := Lib.hid (fun w' hb => cerr_any b (bs r1.l) r1.e w' (HQ.out.1.below hb))
      rw [he] at HERR
      go_wp2_with fail
      refine (HERR.out _ ((Below.refl _ _).alloc (Nat.le_refl _) _)).mono ?_
      rintro e w3 ⟨rfl, rfl⟩
      obtain ⟨w3, hw3⟩ : ∃ W, w2.alloc (.cells (OpR.cells ⟨n, 0, 0, 0, 0, 0, ⟨#[]⟩, ⟨#[]⟩⟩) 30) = W := ⟨_, rfl⟩
      have hb3 : Below w2.heap.size w2 w3 := by rw [← hw3]; exact (Below.refl _ _).alloc (Nat.le_refl _) _
      have hbox : OpBox w3 w2.heap.size ⟨n, 0, 0, 0, 0, 0, ⟨#[]⟩, ⟨#[]⟩⟩ := by rw [← hw3]; exact World.alloc_heap_new _ _
      have HRet3 := Lib.hid (HRet.out.below hb3)
      have hxb : w2.heap.size ≠ b := by omega
      have hxr : w2.heap.size ≠ w.heap.size := by omega
      have hxw : w.heap.size ≤ w2.heap.size := by omega
      have HX := Lib.hid (And.intro hxb (And.intro hxr hxw))
      have HT : Hid (TkS 88 b w.heap.size w2.heap.size B w (⟨n, 0, 0, 0, 0, 0, ⟨#[]⟩, ⟨#[]⟩⟩, r1) w3) := Lib.hid ⟨HQ.out.1.below hb3, (KeptBut.of_below HB1.out).trans (HQ.out.2.trans (KeptBut.of_below hb3)), hbox, HRet3.out, HD2.out.below hb3, HL.out⟩
      obtain ⟨c0, c1, c2, c3, c4, c5, c6, c7⟩ := hbox.cells
      simp only at c0 c1 c2 c3 c4 c5 c6 c7
      simp only [OpR.cells] at hw3
      clear hb3 hbox hxb hxr hxw
      go_wp2_with fail
      refine (HKIND _).out.mono ?_
      rintro e w4 ⟨rfl, rfl⟩
      clear hw3
  
      go_wp2_with fail
      refine (cfail_any b (bs r1.l) r1.e 15 w3 HT.out.rd).mono ?_
      rintro e w5 ⟨rfl, h1, h2⟩
      have HR5 : Hid (RdAt 88 w5 b ⟨r1.l, 15⟩ ∧ KeptBut b w w5) := Lib.hid ⟨by rw [if_pos he] at h1; exact h1, HT.out.kept.trans h2⟩
      have HRet5 := Lib.hid (HT.out.ret.keptBut h2 hrne)
      clear h1 h2
      obtain ⟨q0, q1, q2, q3, q4, q5, q6, q7⟩ := HRet5.out.cells
      obtain ⟨y0, y1, y2, y3, y4, y5, y6, y7⟩ := HRet5.out.frozen
      go_wp2_with fail
      have HFIN := put8_fin HR5.out.1 HR5.out.2 HRet5.out (fun e => hrne e.symm) (Nat.le_refl _) 0 0 0 0 0 0 ⟨#[]⟩ ⟨#[]⟩
      exact bodyPost_ret (results_cell_row rfl _ _ w.heap.size 30 zeroR.cells (0, 0) _ rfl HFIN.1 Tryd.underlying30 rfl HI.out) rfl ⟨rfl, HFIN.2⟩
    · have HF : Hid (r.op = takeB n ({ zeroR with k := (n : Int) }, r1)) := Lib.hid (by rw [HOP.out, if_neg (by simpa using he), if_neg h12])
      have hn13 : n < 13 := by omega
      have HKIND := fun w' => Lib.hid (kind_any (n : Int) w')
      rw [show kindB (n : Int) = true by simp [kindB]; omega] at HKIND
      obtain ⟨x1, s1, hxs⟩ : ∃ x1 s1, gto n (gnum ({ zeroR with k := (n : Int) }, r1) 1 63) = (x1, s1) := ⟨_, _, rfl⟩
      have HXS := Lib.hid hxs
      obtain ⟨x2, s2, hxs2⟩ : ∃ x2 s2, gnums n (x1, s1) 3 = (x2, s2) := ⟨_, _, rfl⟩
      have HXS2 := Lib.hid hxs2
      have HF2 : Hid (r.op = gtxts n (x2, s2) 2) := Lib.hid (by rw [HF.out]; unfold takeB; rw [hxs, hxs2])
      rw [HF2.out]
      clear hxs hxs2
      clear HOP h hd hn hr1 hb1
      go_enter Tryd.func71, Tryd.ntmps71
      go_wp2_with fail
      refine HN.out.mono ?_
      rintro e w2 ⟨rfl, h1, h2⟩
      have HQ := Lib.hid (And.intro h1 h2)
      have HRet := Lib.hid (HRB.out.keptBut h2 hrne)
      have HD2 : Hid (Flds w2) := Lib.hid (HD1.out.of_block (h2.block 0 (Nat.lt_of_le_of_lt (Nat.zero_le _) (Nat.lt_of_lt_of_le hlt HB1.out.size)) (by omega)))
      have hsz2 : w.heap.size + 1 ≤ w2.heap.size := Nat.le_trans HSZ1.out h2.size
      clear h1 h2 hw1
      have HERR := Lib.hid (fun w' hb => cerr_any b (bs r1.l) r1.e w' (HQ.out.1.below hb))
      rw [he] at HERR
      go_wp2_with fail
      refine (HERR.out _ ((Below.refl _ _).alloc (Nat.le_refl _) _)).mono ?_
      rintro e w3 ⟨rfl, rfl⟩
      obtain ⟨w3, hw3⟩ : ∃ W, w2.alloc (.cells (OpR.cells ⟨n, 0, 0, 0, 0, 0, ⟨#[]⟩, ⟨#[]⟩⟩) 30) = W := ⟨_, rfl⟩
      have hb3 : Below w2.heap.size w2 w3 := by rw [← hw3]; exact (Below.refl _ _).alloc (Nat.le_refl _) _
      have hbox : OpBox w3 w2.heap.size ⟨n, 0, 0, 0, 0, 0, ⟨#[]⟩, ⟨#[]⟩⟩ := by rw [← hw3]; exact World.alloc_heap_new _ _
      have HRet3 := Lib.hid (HRet.out.below hb3)
      have hxb : w2.heap.size ≠ b := by omega
      have hxr : w2.heap.size ≠ w.heap.size := by omega
      have hxw : w.heap.size ≤ w2.heap.size := by omega
      have HX := Lib.hid (And.intro hxb (And.intro hxr hxw))
      have HT : Hid (TkS 88 b w.heap.size w2.heap.size B w (⟨n, 0, 0, 0, 0, 0, ⟨#[]⟩, ⟨#[]⟩⟩, r1) w3) := Lib.hid ⟨HQ.out.1.below hb3, (KeptBut.of_below HB1.out).trans (HQ.out.2.trans (KeptBut.of_below hb3)), hbox, HRet3.out, HD2.out.below hb3, HL.out⟩
      obtain ⟨c0, c1, c2, c3, c4, c5, c6, c7⟩ := hbox.cells
      simp only at c0 c1 c2 c3 c4 c5 c6 c7
      simp only [OpR.cells] at hw3
      clear hb3 hbox hxb hxr hxw
      go_wp2_with fail
      refine (HKIND _).out.mono ?_
      rintro e w4 ⟨rfl, rfl⟩
      clear hw3
  
      obtain ⟨F, hF⟩ : ∃ F, fieldsTab.getD n 0 = F := ⟨_, rfl⟩
      have HFF := Lib.hid hF
      have hv0 := fbit_val ⟨n, hn13⟩ ⟨0, by decide⟩
      simp only at hv0
      rw [hF] at hv0
      clear hF
      go_wp2_with fail
      refine (HT.out.cnum HX.out.1 hrne hb0 63).mono ?_
      rintro e w5 ⟨rfl, hs5⟩
      have HS5 := Lib.hid hs5
      have z1 := hs5.box.frozen.2.1
      have k1 := hs5.box.cells.2.1
      have k0 := hs5.box.cells.1
      simp only at k0 k1
      have hf := hs5.flds.cell n hn13
      rw [HFF.out] at hf
      have hxx := HX.out.1
      have hx0 : ¬ 0 = w2.heap.size := by omega
      obtain ⟨P, hP⟩ : ∃ P, (r1.num 63).1 = P := ⟨_, rfl⟩
      have HP := Lib.hid hP
      rw [hP]
      have HS6 : Hid (TkS 88 b w.heap.size w2.heap.size B w (⟨n, P, 0, 0, 0, 0, ⟨#[]⟩, ⟨#[]⟩⟩, (r1.num 63).2) (w5.setCell ⟨w2.heap.size, 1, none⟩ (.int .i64 P))) := Lib.hid (hs5.setN HX.out.1 HX.out.2.1 HX.out.2.2 (by omega) 1 (by omega) (by omega) P)
      obtain ⟨W6, hW6⟩ : ∃ W6, w5.setCell ⟨w2.heap.size, 1, none⟩ (.int .i64 P) = W6 := ⟨_, rfl⟩
      rw [hW6] at HS6
      have l0 := HS6.out.box.cells.1
      simp only at l0
      have hf6 := HS6.out.flds.cell n hn13
      rw [HFF.out] at hf6
      clear hs5 hP hf c0 c1 c2 c3 c4 c5 c6 c7
      by_cases hb0' : fbit n 0 = true
      · rw [if_pos hb0'] at hv0
        have hbit : bits .and .i64 F 1 = 1 := by simpa using hv0
        obtain ⟨T, hT⟩ : ∃ T, ((r1.num 63).2.num 63).1 = T := ⟨_, rfl⟩
        have HT2 := Lib.hid hT
        have HX1 : Hid ((⟨n, P, T, 0, 0, 0, ⟨#[]⟩, ⟨#[]⟩⟩, ((r1.num 63).2.num 63).2) = (x1, s1)) := Lib.hid (by
          have h := HXS.out
          unfold gto at h
          rw [if_pos hb0'] at h
          rw [← h]
          unfold gnum
          simp only
          rw [HP.out, hT]
          rfl)
        clear hv0 hT
        go_wp2_with fail
        refine (HS6.out.cnum HX.out.1 hrne hb0 63).mono ?_
        rintro e w7 ⟨rfl, hs7⟩
        rw [HT2.out]
        have z2 := hs7.box.frozen.2.2.1
        have k2 := hs7.box.cells.2.2.1
        simp only at k2
        have HS8 : Hid (TkS 88 b w.heap.size w2.heap.size B w (x1, s1) (w7.setCell ⟨w2.heap.size, 2, none⟩ (.int .i64 T))) := Lib.hid (by rw [← HX1.out]; exact hs7.setN HX.out.1 HX.out.2.1 HX.out.2.2 (by omega) 2 (by omega) (by omega) T)
        obtain ⟨W8, hW8⟩ : ∃ W8, w7.setCell ⟨w2.heap.size, 2, none⟩ (.int .i64 T) = W8 := ⟨_, rfl⟩
        rw [hW8] at HS8
        clear hs7
        go_wp2_with fail
        clear z2 k2 hW8 z1 k1 k0 hW6 hf6 l0 hbit hb0'
        go_loopg [5, 6, 40] 3 (fun g t5 t6 t40 wr => ∃ i : Nat, Hid (g = 3 - i ∧ i ≤ 3) ∧ t40 = .int .i64 i ∧ Hid (TkS 88 b w.heap.size w2.heap.size B w (gnums n (x1, s1) i) wr))
        case atStart => exact ⟨0, ⟨rfl, Nat.zero_le _⟩, rfl, HS8.out⟩
        case round =>
          obtain ⟨i, HG, rfl, HR⟩ := hrel
          by_cases hi : i < 3
          · rcases (show i = 0 ∨ i = 1 ∨ i = 2 by omega) with rfl | rfl | rfl
            · have q := index3p_0 w2.heap.size 3 4 5
              have hvv := fbit_val ⟨n, hn13⟩ ⟨1, by decide⟩
              simp only at hvv
              rw [HFF.out] at hvv
              obtain ⟨x, r', hxr⟩ : ∃ x r', gnums n (x1, s1) 0 = (x, r') := ⟨_, _, rfl⟩
              have HXR := Lib.hid hxr
              rw [hxr] at HR
              clear hxr
              by_cases hb : fbit n 1 = true
              · rw [if_pos hb] at hvv
                have hbit : bits .and .i64 (F / 2) 1 = 1 := by simpa using hvv
                obtain ⟨V, hV⟩ : ∃ V, (r'.num 1073741824).1 = V := ⟨_, rfl⟩
                have HV := Lib.hid hV
                have HNX : Hid (gnums n (x1, s1) (0 + 1) = (x.setN 3 V, (r'.num 1073741824).2)) := Lib.hid (by rw [show gnums n (x1, s1) (0 + 1) = if fbit n (1 + 0) = true then gnum (gnums n (x1, s1) 0) (3 + 0) 1073741824 else gnums n (x1, s1) 0 from rfl, if_pos hb, HXR.out, ← hV]; rfl)
                clear hvv hb hV
                go_wp2_with fail
                refine (HR.out.cnum HX.out.1 hrne hb0 1073741824).mono ?_
                rintro e w9 ⟨rfl, hs9⟩
                rw [HV.out]
                have HS9 := Lib.hid hs9
                obtain ⟨g0, g1, g2, g3, g4, g5, g6, g7⟩ := hs9.box.frozen
                obtain ⟨j0, j1, j2, j3, j4, j5, j6, j7⟩ := hs9.box.cells
                clear hs9
                go_wp2_with fail
                go_roundg (3 - (0 + 1))
                case rel => exact ⟨0 + 1, ⟨rfl, by omega⟩, by go_num, by rw [HNX.out]; exact HS9.out.setN HX.out.1 HX.out.2.1 HX.out.2.2 (by omega) 3 (by omega) (by omega) V⟩
                case measure => have := HG.out; omega
              · rw [if_neg hb] at hvv
                have hbit : bits .and .i64 (F / 2) 1 = 0 := by simpa using hvv
                have HNX : Hid (gnums n (x1, s1) (0 + 1) = (x, r')) := Lib.hid (by rw [show gnums n (x1, s1) (0 + 1) = if fbit n (1 + 0) = true then gnum (gnums n (x1, s1) 0) (3 + 0) 1073741824 else gnums n (x1, s1) 0 from rfl, if_neg hb, HXR.out])
                clear hvv hb
                go_wp2_with fail
                go_roundg (3 - (0 + 1))
                case rel => exact ⟨0 + 1, ⟨rfl, by omega⟩, by go_num, by rw [HNX.out]; exact HR.out⟩
                case measure => have := HG.out; omega
            · have q := index3p_1 w2.heap.size 3 4 5
              have hvv := fbit_val ⟨n, hn13⟩ ⟨2, by decide⟩
              simp only at hvv
              rw [HFF.out] at hvv
              obtain ⟨x, r', hxr⟩ : ∃ x r', gnums n (x1, s1) 1 = (x, r') := ⟨_, _, rfl⟩
              have HXR := Lib.hid hxr
              rw [hxr] at HR
              clear hxr
              by_cases hb : fbit n 2 = true
              · rw [if_pos hb] at hvv
                have hbit : bits .and .i64 (F / 4) 1 = 1 := by simpa using hvv
                obtain ⟨V, hV⟩ : ∃ V, (r'.num 1073741824).1 = V := ⟨_, rfl⟩
                have HV := Lib.hid hV
                have HNX : Hid (gnums n (x1, s1) (1 + 1) = (x.setN 4 V, (r'.num 1073741824).2)) := Lib.hid (by rw [show gnums n (x1, s1) (1 + 1) = if fbit n (1 + 1) = true then gnum (gnums n (x1, s1) 1) (3 + 1) 1073741824 else gnums n (x1, s1) 1 from rfl, if_pos hb, HXR.out, ← hV]; rfl)
                clear hvv hb hV
                go_wp2_with fail
                refine (HR.out.cnum HX.out.1 hrne hb0 1073741824).mono ?_
                rintro e w9 ⟨rfl, hs9⟩
                rw [HV.out]
                have HS9 := Lib.hid hs9
                obtain ⟨g0, g1, g2, g3, g4, g5, g6, g7⟩ := hs9.box.frozen
                obtain ⟨j0, j1, j2, j3, j4, j5, j6, j7⟩ := hs9.box.cells
                clear hs9
                go_wp2_with fail
                go_roundg (3 - (1 + 1))
                case rel => exact ⟨1 + 1, ⟨rfl, by omega⟩, by go_num, by rw [HNX.out]; exact HS9.out.setN HX.out.1 HX.out.2.1 HX.out.2.2 (by omega) 4 (by omega) (by omega) V⟩
                case measure => have := HG.out; omega
              · rw [if_neg hb] at hvv
                have hbit : bits .and .i64 (F / 4) 1 = 0 := by simpa using hvv
                have HNX : Hid (gnums n (x1, s1) (1 + 1) = (x, r')) := Lib.hid (by rw [show gnums n (x1, s1) (1 + 1) = if fbit n (1 + 1) = true then gnum (gnums n (x1, s1) 1) (3 + 1) 1073741824 else gnums n (x1, s1) 1 from rfl, if_neg hb, HXR.out])
                clear hvv hb
                go_wp2_with fail
                go_roundg (3 - (1 + 1))
                case rel => exact ⟨1 + 1, ⟨rfl, by omega⟩, by go_num, by rw [HNX.out]; exact HR.out⟩
                case measure => have := HG.out; omega
            · have q := index3p_2 w2.heap.size 3 4 5
              have hvv := fbit_val ⟨n, hn13⟩ ⟨3, by decide⟩
              simp only at hvv
              rw [HFF.out] at hvv
              obtain ⟨x, r', hxr⟩ : ∃ x r', gnums n (x1, s1) 2 = (x, r') := ⟨_, _, rfl⟩
              have HXR := Lib.hid hxr
              rw [hxr] at HR
              clear hxr
              by_cases hb : fbit n 3 = true
              · rw [if_pos hb] at hvv
                have hbit : bits .and .i64 (F / 8) 1 = 1 := by simpa using hvv
                obtain ⟨V, hV⟩ : ∃ V, (r'.num 1073741824).1 = V := ⟨_, rfl⟩
                have HV := Lib.hid hV
                have HNX : Hid (gnums n (x1, s1) (2 + 1) = (x.setN 5 V, (r'.num 1073741824).2)) := Lib.hid (by rw [show gnums n (x1, s1) (2 + 1) = if fbit n (1 + 2) = true then gnum (gnums n (x1, s1) 2) (3 + 2) 1073741824 else gnums n (x1, s1) 2 from rfl, if_pos hb, HXR.out, ← hV]; rfl)
                clear hvv hb hV
                go_wp2_with fail
                refine (HR.out.cnum HX.out.1 hrne hb0 1073741824).mono ?_
                rintro e w9 ⟨rfl, hs9⟩
                rw [HV.out]
                have HS9 := Lib.hid hs9
                obtain ⟨g0, g1, g2, g3, g4, g5, g6, g7⟩ := hs9.box.frozen
                obtain ⟨j0, j1, j2, j3, j4, j5, j6, j7⟩ := hs9.box.cells
                clear hs9
                go_wp2_with fail
                go_roundg (3 - (2 + 1))
                case rel => exact ⟨2 + 1, ⟨rfl, by omega⟩, by go_num, by rw [HNX.out]; exact HS9.out.setN HX.out.1 HX.out.2.1 HX.out.2.2 (by omega) 5 (by omega) (by omega) V⟩
                case measure => have := HG.out; omega
              · rw [if_neg hb] at hvv
                have hbit : bits .and .i64 (F / 8) 1 = 0 := by simpa using hvv
                have HNX : Hid (gnums n (x1, s1) (2 + 1) = (x, r')) := Lib.hid (by rw [show gnums n (x1, s1) (2 + 1) = if fbit n (1 + 2) = true then gnum (gnums n (x1, s1) 2) (3 + 2) 1073741824 else gnums n (x1, s1) 2 from rfl, if_neg hb, HXR.out])
                clear hvv hb
                go_wp2_with fail
                go_roundg (3 - (2 + 1))
                case rel => exact ⟨2 + 1, ⟨rfl, by omega⟩, by go_num, by rw [HNX.out]; exact HR.out⟩
                case measure => have := HG.out; omega
          · obtain rfl : i = 3 := by have := HG.out.2; omega
            rw [HXS2.out] at HR
            go_wp2_with fail
            go_loopg [7, 8, 58] 2 (fun g t7 t8 t58 wr => ∃ i : Nat, Hid (g = 2 - i ∧ i ≤ 2) ∧ t58 = .int .i64 i ∧ Hid (TkS 88 b w.heap.size w2.heap.size B w (gtxts n (x2, s2) i) wr))
            case atStart => exact ⟨0, ⟨rfl, Nat.zero_le _⟩, rfl, HR.out⟩
            case round =>
              clear HG
              obtain ⟨i, HG, rfl, HR⟩ := hrel
              by_cases hi : i < 2
              · rcases (show i = 0 ∨ i = 1 by omega) with rfl | rfl
                · have q := index2p_0 w2.heap.size 6 7
                  have hvv := fbit_val ⟨n, hn13⟩ ⟨4, by decide⟩
                  simp only at hvv
                  rw [HFF.out] at hvv
                  obtain ⟨x, r', hxr⟩ : ∃ x r', gtxts n (x2, s2) 0 = (x, r') := ⟨_, _, rfl⟩
                  have HXR := Lib.hid hxr
                  rw [hxr] at HR
                  clear hxr
                  by_cases hb : fbit n 4 = true
                  · rw [if_pos hb] at hvv
                    have hbit : bits .and .i64 (F / 16) 1 = 1 := by simpa using hvv
                    obtain ⟨V, hV⟩ : ∃ V, (r'.txt 255).1 = V := ⟨_, rfl⟩
                    obtain ⟨VB, hVB⟩ : ∃ VB, bs V = VB := ⟨_, rfl⟩
                    have HV := Lib.hid (And.intro hV hVB)
                    have HNX : Hid (gtxts n (x2, s2) (0 + 1) = (x.setT 6 V, (r'.txt 255).2)) := Lib.hid (by rw [show gtxts n (x2, s2) (0 + 1) = if fbit n (4 + 0) = true then gtxt (gtxts n (x2, s2) 0) (6 + 0) else gtxts n (x2, s2) 0 from rfl, if_pos hb, HXR.out, ← hV]; rfl)
                    clear hvv hb hV hVB
                    go_wp2_with fail
                    refine (HR.out.ctxt HX.out.1 hrne hb0 hBB 255).mono ?_
                    rintro e w9 ⟨rfl, hs9⟩
                    rw [HV.out.1, HV.out.2]
                    have HS9 := Lib.hid hs9
                    obtain ⟨g0, g1, g2, g3, g4, g5, g6, g7⟩ := hs9.box.frozen
                    obtain ⟨j0, j1, j2, j3, j4, j5, j6, j7⟩ := hs9.box.cells
                    clear hs9
                    go_wp2_with fail
                    go_roundg (2 - (0 + 1))
                    case rel => exact ⟨0 + 1, ⟨rfl, by omega⟩, by go_num, by rw [HNX.out, ← HV.out.2]; exact HS9.out.setT HX.out.1 HX.out.2.1 HX.out.2.2 (by omega) 6 (by omega) V⟩
                    case measure => have := HG.out; omega
                  · rw [if_neg hb] at hvv
                    have hbit : bits .and .i64 (F / 16) 1 = 0 := by simpa using hvv
                    have HNX : Hid (gtxts n (x2, s2) (0 + 1) = (x, r')) := Lib.hid (by rw [show gtxts n (x2, s2) (0 + 1) = if fbit n (4 + 0) = true then gtxt (gtxts n (x2, s2) 0) (6 + 0) else gtxts n (x2, s2) 0 from rfl, if_neg hb, HXR.out])
                    clear hvv hb
                    go_wp2_with fail
                    go_roundg (2 - (0 + 1))
                    case rel => exact ⟨0 + 1, ⟨rfl, by omega⟩, by go_num, by rw [HNX.out]; exact HR.out⟩
                    case measure => have := HG.out; omega
                · have q := index2p_1 w2.heap.size 6 7
                  have hvv := fbit_val ⟨n, hn13⟩ ⟨5, by decide⟩
                  simp only at hvv
                  rw [HFF.out] at hvv
                  obtain ⟨x, r', hxr⟩ : ∃ x r', gtxts n (x2, s2) 1 = (x, r') := ⟨_, _, rfl⟩
                  have HXR := Lib.hid hxr
                  rw [hxr] at HR
                  clear hxr
                  by_cases hb : fbit n 5 = true
                  · rw [if_pos hb] at hvv
                    have hbit : bits .and .i64 (F / 32) 1 = 1 := by simpa using hvv
                    obtain ⟨V, hV⟩ : ∃ V, (r'.txt 255).1 = V := ⟨_, rfl⟩
                    obtain ⟨VB, hVB⟩ : ∃ VB, bs V = VB := ⟨_, rfl⟩
                    have HV := Lib.hid (And.intro hV hVB)
                    have HNX : Hid (gtxts n (x2, s2) (1 + 1) = (x.setT 7 V, (r'.txt 255).2)) := Lib.hid (by rw [show gtxts n (x2, s2) (1 + 1) = if fbit n (4 + 1) = true then gtxt (gtxts n (x2, s2) 1) (6 + 1) else gtxts n (x2, s2) 1 from rfl, if_pos hb, HXR.out, ← hV]; rfl)
                    clear hvv hb hV hVB
                    go_wp2_with fail
                    refine (HR.out.ctxt HX.out.1 hrne hb0 hBB 255).mono ?_
                    rintro e w9 ⟨rfl, hs9⟩
                    rw [HV.out.1, HV.out.2]
                    have HS9 := Lib.hid hs9
                    obtain ⟨g0, g1, g2, g3, g4, g5, g6, g7⟩ := hs9.box.frozen
                    obtain ⟨j0, j1, j2, j3, j4, j5, j6, j7⟩ := hs9.box.cells
                    clear hs9
                    go_wp2_with fail
                    go_roundg (2 - (1 + 1))
                    case rel => exact ⟨1 + 1, ⟨rfl, by omega⟩, by go_num, by rw [HNX.out, ← HV.out.2]; exact HS9.out.setT HX.out.1 HX.out.2.1 HX.out.2.2 (by omega) 7 (by omega) V⟩
                    case measure => have := HG.out; omega
                  · rw [if_neg hb] at hvv
                    have hbit : bits .and .i64 (F / 32) 1 = 0 := by simpa using hvv
                    have HNX : Hid (gtxts n (x2, s2) (1 + 1) = (x, r')) := Lib.hid (by rw [show gtxts n (x2, s2) (1 + 1) = if fbit n (4 + 1) = true then gtxt (gtxts n (x2, s2) 1) (6 + 1) else gtxts n (x2, s2) 1 from rfl, if_neg hb, HXR.out])
                    clear hvv hb
                    go_wp2_with fail
                    go_roundg (2 - (1 + 1))
                    case rel => exact ⟨1 + 1, ⟨rfl, by omega⟩, by go_num, by rw [HNX.out]; exact HR.out⟩
                    case measure => have := HG.out; omega
              · obtain rfl : i = 2 := by have := HG.out.2; omega
                obtain ⟨y, rf, hyr⟩ : ∃ y rf, gtxts n (x2, s2) 2 = (y, rf) := ⟨_, _, rfl⟩
                have HYR := Lib.hid hyr
                rw [hyr] at HR
                obtain ⟨k', p', t', n', a', m', u', v'⟩ := y
                obtain ⟨j0, j1, j2, j3, j4, j5, j6, j7⟩ := HR.out.box.cells
                obtain ⟨i0, i1, i2, i3, i4, i5, i6, i7⟩ := HR.out.ret.cells
                obtain ⟨g0, g1, g2, g3, g4, g5, g6, g7⟩ := HR.out.ret.frozen
                simp only at j0 j1 j2 j3 j4 j5 j6 j7 i0 i1 i2 i3 i4 i5 i6 i7
                clear hyr
                go_wp2_with fail
                have HFIN := put8_fin HR.out.rd HR.out.kept HR.out.ret (fun e => hrne e.symm) (Nat.le_refl _) k' p' t' n' a' m' u' v'
                refine bodyPost_ret (results_cell_row rfl _ _ w.heap.size 30 (OpR.cells ⟨k', p', t', n', a', m', u', v'⟩) (0, 0) _ rfl HFIN.1 Tryd.underlying30 rfl HI.out) rfl ?_
                rw [HYR.out]
                exact ⟨rfl, HFIN.2⟩
      · rw [if_neg hb0'] at hv0
        have hbit : bits .and .i64 F 1 = 0 := by simpa using hv0
        have HX1 : Hid ((⟨n, P, 0, 0, 0, 0, ⟨#[]⟩, ⟨#[]⟩⟩, (r1.num 63).2) = (x1, s1)) := Lib.hid (by
          have h := HXS.out
          unfold gto at h
          rw [if_neg hb0'] at h
          rw [← h]
          unfold gnum
          simp only
          rw [HP.out]
          rfl)
        have HS8 : Hid (TkS 88 b w.heap.size w2.heap.size B w (x1, s1) W6) := Lib.hid (by rw [← HX1.out]; exact HS6.out)
        clear hv0
        go_wp2_with fail
        clear z1 k1 k0 hW6 hf6 l0 hbit hb0'
        go_loopg [5, 6, 40] 3 (fun g t5 t6 t40 wr => ∃ i : Nat, Hid (g = 3 - i ∧ i ≤ 3) ∧ t40 = .int .i64 i ∧ Hid (TkS 88 b w.heap.size w2.heap.size B w (gnums n (x1, s1) i) wr))
        case atStart => exact ⟨0, ⟨rfl, Nat.zero_le _⟩, rfl, HS8.out⟩
        case round =>
          obtain ⟨i, HG, rfl, HR⟩ := hrel
          by_cases hi : i < 3
          · rcases (show i = 0 ∨ i = 1 ∨ i = 2 by omega) with rfl | rfl | rfl
            · have q := index3p_0 w2.heap.size 3 4 5
              have hvv := fbit_val ⟨n, hn13⟩ ⟨1, by decide⟩
              simp only at hvv
              rw [HFF.out] at hvv
              obtain ⟨x, r', hxr⟩ : ∃ x r', gnums n (x1, s1) 0 = (x, r') := ⟨_, _, rfl⟩
              have HXR := Lib.hid hxr
              rw [hxr] at HR
              clear hxr
              by_cases hb : fbit n 1 = true
              · rw [if_pos hb] at hvv
                have hbit : bits .and .i64 (F / 2) 1 = 1 := by simpa using hvv
                obtain ⟨V, hV⟩ : ∃ V, (r'.num 1073741824).1 = V := ⟨_, rfl⟩
                have HV := Lib.hid hV
                have HNX : Hid (gnums n (x1, s1) (0 + 1) = (x.setN 3 V, (r'.num 1073741824).2)) := Lib.hid (by rw [show gnums n (x1, s1) (0 + 1) = if fbit n (1 + 0) = true then gnum (gnums n (x1, s1) 0) (3 + 0) 1073741824 else gnums n (x1, s1) 0 from rfl, if_pos hb, HXR.out, ← hV]; rfl)
                clear hvv hb hV
                go_wp2_with fail
                refine (HR.out.cnum HX.out.1 hrne hb0 1073741824).mono ?_
                rintro e w9 ⟨rfl, hs9⟩
                rw [HV.out]
                have HS9 := Lib.hid hs9
                obtain ⟨g0, g1, g2, g3, g4, g5, g6, g7⟩ := hs9.box.frozen
                obtain ⟨j0, j1, j2, j3, j4, j5, j6, j7⟩ := hs9.box.cells
                clear hs9
                go_wp2_with fail
                go_roundg (3 - (0 + 1))
                case rel => exact ⟨0 + 1, ⟨rfl, by omega⟩, by go_num, by rw [HNX.out]; exact HS9.out.setN HX.out.1 HX.out.2.1 HX.out.2.2 (by omega) 3 (by omega) (by omega) V⟩
                case measure => have := HG.out; omega
              · rw [if_neg hb] at hvv
                have hbit : bits .and .i64 (F / 2) 1 = 0 := by simpa using hvv
                have HNX : Hid (gnums n (x1, s1) (0 + 1) = (x, r')) := Lib.hid (by rw [show gnums n (x1, s1) (0 + 1) = if fbit n (1 + 0) = true then gnum (gnums n (x1, s1) 0) (3 + 0) 1073741824 else gnums n (x1, s1) 0 from rfl, if_neg hb, HXR.out])
                clear hvv hb
                go_wp2_with fail
                go_roundg (3 - (0 + 1))
                case rel => exact ⟨0 + 1, ⟨rfl, by omega⟩, by go_num, by rw [HNX.out]; exact HR.out⟩
                case measure => have := HG.out; omega
            · have q := index3p_1 w2.heap.size 3 4 5
              have hvv := fbit_val ⟨n, hn13⟩ ⟨2, by decide⟩
              simp only at hvv
              rw [HFF.out] at hvv
              obtain ⟨x, r', hxr⟩ : ∃ x r', gnums n (x1, s1) 1 = (x, r') := ⟨_, _, rfl⟩
              have HXR := Lib.hid hxr
              rw [hxr] at HR
              clear hxr
              by_cases hb : fbit n 2 = true
              · rw [if_pos hb] at hvv
                have hbit : bits .and .i64 (F / 4) 1 = 1 := by simpa using hvv
                obtain ⟨V, hV⟩ : ∃ V, (r'.num 1073741824).1 = V := ⟨_, rfl⟩
                have HV := Lib.hid hV
                have HNX : Hid (gnums n (x1, s1) (1 + 1) = (x.setN 4 V, (r'.num 1073741824).2)) := Lib.hid (by rw [show gnums n (x1, s1) (1 + 1) = if fbit n (1 + 1) = true then gnum (gnums n (x1, s1) 1) (3 + 1) 1073741824 else gnums n (x1, s1) 1 from rfl, if_pos hb, HXR.out, ← hV]; rfl)
                clear hvv hb hV
                go_wp2_with fail
                refine (HR.out.cnum HX.out.1 hrne hb0 1073741824).mono ?_
                rintro e w9 ⟨rfl, hs9⟩
                rw [HV.out]
                have HS9 := Lib.hid hs9
                obtain ⟨g0, g1, g2, g3, g4, g5, g6, g7⟩ := hs9.box.frozen
                obtain ⟨j0, j1, j2, j3, j4, j5, j6, j7⟩ := hs9.box.cells
                clear hs9
                go_wp2_with fail
                go_roundg (3 - (1 + 1))
                case rel => exact ⟨1 + 1, ⟨rfl, by omega⟩, by go_num, by rw [HNX.out]; exact HS9.out.setN HX.out.1 HX.out.2.1 HX.out.2.2 (by omega) 4 (by omega) (by omega) V⟩
                case measure => have := HG.out; omega
              · rw [if_neg hb] at hvv
                have hbit : bits .and .i64 (F / 4) 1 = 0 := by simpa using hvv
                have HNX : Hid (gnums n (x1, s1) (1 + 1) = (x, r')) := Lib.hid (by rw [show gnums n (x1, s1) (1 + 1) = if fbit n (1 + 1) = true then gnum (gnums n (x1, s1) 1) (3 + 1) 1073741824 else gnums n (x1, s1) 1 from rfl, if_neg hb, HXR.out])
                clear hvv hb
                go_wp2_with fail
                go_roundg (3 - (1 + 1))
                case rel => exact ⟨1 + 1, ⟨rfl, by omega⟩, by go_num, by rw [HNX.out]; exact HR.out⟩
                case measure => have := HG.out; omega
            · have q := index3p_2 w2.heap.size 3 4 5
              have hvv := fbit_val ⟨n, hn13⟩ ⟨3, by decide⟩
              simp only at hvv
              rw [HFF.out] at hvv
              obtain ⟨x, r', hxr⟩ : ∃ x r', gnums n (x1, s1) 2 = (x, r') := ⟨_, _, rfl⟩
              have HXR := Lib.hid hxr
              rw [hxr] at HR
              clear hxr
              by_cases hb : fbit n 3 = true
              · rw [if_pos hb] at hvv
                have hbit : bits .and .i64 (F / 8) 1 = 1 := by simpa using hvv
                obtain ⟨V, hV⟩ : ∃ V, (r'.num 1073741824).1 = V := ⟨_, rfl⟩
                have HV := Lib.hid hV
                have HNX : Hid (gnums n (x1, s1) (2 + 1) = (x.setN 5 V, (r'.num 1073741824).2)) := Lib.hid (by rw [show gnums n (x1, s1) (2 + 1) = if fbit n (1 + 2) = true then gnum (gnums n (x1, s1) 2) (3 + 2) 1073741824 else gnums n (x1, s1) 2 from rfl, if_pos hb, HXR.out, ← hV]; rfl)
                clear hvv hb hV
                go_wp2_with fail
                refine (HR.out.cnum HX.out.1 hrne hb0 1073741824).mono ?_
                rintro e w9 ⟨rfl, hs9⟩
                rw [HV.out]
                have HS9 := Lib.hid hs9
                obtain ⟨g0, g1, g2, g3, g4, g5, g6, g7⟩ := hs9.box.frozen
                obtain ⟨j0, j1, j2, j3, j4, j5, j6, j7⟩ := hs9.box.cells
                clear hs9
                go_wp2_with fail
                go_roundg (3 - (2 + 1))
                case rel => exact ⟨2 + 1, ⟨rfl, by omega⟩, by go_num, by rw [HNX.out]; exact HS9.out.setN HX.out.1 HX.out.2.1 HX.out.2.2 (by omega) 5 (by omega) (by omega) V⟩
                case measure => have := HG.out; omega
              · rw [if_neg hb] at hvv
                have hbit : bits .and .i64 (F / 8) 1 = 0 := by simpa using hvv
                have HNX : Hid (gnums n (x1, s1) (2 + 1) = (x, r')) := Lib.hid (by rw [show gnums n (x1, s1) (2 + 1) = if fbit n (1 + 2) = true then gnum (gnums n (x1, s1) 2) (3 + 2) 1073741824 else gnums n (x1, s1) 2 from rfl, if_neg hb, HXR.out])
                clear hvv hb
                go_wp2_with fail
                go_roundg (3 - (2 + 1))
                case rel => exact ⟨2 + 1, ⟨rfl, by omega⟩, by go_num, by rw [HNX.out]; exact HR.out⟩
                case measure => have := HG.out; omega
          · obtain rfl : i = 3 := by have := HG.out.2; omega
            rw [HXS2.out] at HR
            go_wp2_with fail
            go_loopg [7, 8, 58] 2 (fun g t7 t8 t58 wr => ∃ i : Nat, Hid (g = 2 - i ∧ i ≤ 2) ∧ t58 = .int .i64 i ∧ Hid (TkS 88 b w.heap.size w2.heap.size B w (gtxts n (x2, s2) i) wr))
            case atStart => exact ⟨0, ⟨rfl, Nat.zero_le _⟩, rfl, HR.out⟩
            case round =>
              clear HG
              obtain ⟨i, HG, rfl, HR⟩ := hrel
              by_cases hi : i < 2
              · rcases (show i = 0 ∨ i = 1 by omega) with rfl | rfl
                · have q := index2p_0 w2.heap.size 6 7
                  have hvv := fbit_val ⟨n, hn13⟩ ⟨4, by decide⟩
                  simp only at hvv
                  rw [HFF.out] at hvv
                  obtain ⟨x, r', hxr⟩ : ∃ x r', gtxts n (x2, s2) 0 = (x, r') := ⟨_, _, rfl⟩
                  have HXR := Lib.hid hxr
                  rw [hxr] at HR
                  clear hxr
                  by_cases hb : fbit n 4 = true
                  · rw [if_pos hb] at hvv
                    have hbit : bits .and .i64 (F / 16) 1 = 1 := by simpa using hvv
                    obtain ⟨V, hV⟩ : ∃ V, (r'.txt 255).1 = V := ⟨_, rfl⟩
                    obtain ⟨VB, hVB⟩ : ∃ VB, bs V = VB := ⟨_, rfl⟩
                    have HV := Lib.hid (And.intro hV hVB)
                    have HNX : Hid (gtxts n (x2, s2) (0 + 1) = (x.setT 6 V, (r'.txt 255).2)) := Lib.hid (by rw [show gtxts n (x2, s2) (0 + 1) = if fbit n (4 + 0) = true then gtxt (gtxts n (x2, s2) 0) (6 + 0) else gtxts n (x2, s2) 0 from rfl, if_pos hb, HXR.out, ← hV]; rfl)
                    clear hvv hb hV hVB
                    go_wp2_with fail
                    refine (HR.out.ctxt HX.out.1 hrne hb0 hBB 255).mono ?_
                    rintro e w9 ⟨rfl, hs9⟩
                    rw [HV.out.1, HV.out.2]
                    have HS9 := Lib.hid hs9
                    obtain ⟨g0, g1, g2, g3, g4, g5, g6, g7⟩ := hs9.box.frozen
                    obtain ⟨j0, j1, j2, j3, j4, j5, j6, j7⟩ := hs9.box.cells
                    clear hs9
                    go_wp2_with fail
                    go_roundg (2 - (0 + 1))
                    case rel => exact ⟨0 + 1, ⟨rfl, by omega⟩, by go_num, by rw [HNX.out, ← HV.out.2]; exact HS9.out.setT HX.out.1 HX.out.2.1 HX.out.2.2 (by omega) 6 (by omega) V⟩
                    case measure => have := HG.out; omega
                  · rw [if_neg hb] at hvv
                    have hbit : bits .and .i64 (F / 16) 1 = 0 := by simpa using hvv
                    have HNX : Hid (gtxts n (x2, s2) (0 + 1) = (x, r')) := Lib.hid (by rw [show gtxts n (x2, s2) (0 + 1) = if fbit n (4 + 0) = true then gtxt (gtxts n (x2, s2) 0) (6 + 0) else gtxts n (x2, s2) 0 from rfl, if_neg hb, HXR.out])
                    clear hvv hb
                    go_wp2_with fail
                    go_roundg (2 - (0 + 1))
                    case rel => exact ⟨0 + 1, ⟨rfl, by omega⟩, by go_num, by rw [HNX.out]; exact HR.out⟩
                    case measure => have := HG.out; omega
                · have q := index2p_1 w2.heap.size 6 7
                  have hvv := fbit_val ⟨n, hn13⟩ ⟨5, by decide⟩
                  simp only at hvv
                  rw [HFF.out] at hvv
                  obtain ⟨x, r', hxr⟩ : ∃ x r', gtxts n (x2, s2) 1 = (x, r') := ⟨_, _, rfl⟩
                  have HXR := Lib.hid hxr
                  rw [hxr] at HR
                  clear hxr
                  by_cases hb : fbit n 5 = true
                  · rw [if_pos hb] at hvv
                    have hbit : bits .and .i64 (F / 32) 1 = 1 := by simpa using hvv
                    obtain ⟨V, hV⟩ : ∃ V, (r'.txt 255).1 = V := ⟨_, rfl⟩
                    obtain ⟨VB, hVB⟩ : ∃ VB, bs V = VB := ⟨_, rfl⟩
                    have HV := Lib.hid (And.intro hV hVB)
                    have HNX : Hid (gtxts n (x2, s2) (1 + 1) = (x.setT 7 V, (r'.txt 255).2)) := Lib.hid (by rw [show gtxts n (x2, s2) (1 + 1) = if fbit n (4 + 1) = true then gtxt (gtxts n (x2, s2) 1) (6 + 1) else gtxts n (x2, s2) 1 from rfl, if_pos hb, HXR.out, ← hV]; rfl)
                    clear hvv hb hV hVB
                    go_wp2_with fail
                    refine (HR.out.ctxt HX.out.1 hrne hb0 hBB 255).mono ?_
                    rintro e w9 ⟨rfl, hs9⟩
                    rw [HV.out.1, HV.out.2]
                    have HS9 := Lib.hid hs9
                    obtain ⟨g0, g1, g2, g3, g4, g5, g6, g7⟩ := hs9.box.frozen
                    obtain ⟨j0, j1, j2, j3, j4, j5, j6, j7⟩ := hs9.box.cells
                    clear hs9
                    go_wp2_with fail
                    go_roundg (2 - (1 + 1))
                    case rel => exact ⟨1 + 1, ⟨rfl, by omega⟩, by go_num, by rw [HNX.out, ← HV.out.2]; exact HS9.out.setT HX.out.1 HX.out.2.1 HX.out.2.2 (by omega) 7 (by omega) V⟩
                    case measure => have := HG.out; omega
                  · rw [if_neg hb] at hvv
                    have hbit : bits .and .i64 (F / 32) 1 = 0 := by simpa using hvv
                    have HNX : Hid (gtxts n (x2, s2) (1 + 1) = (x, r')) := Lib.hid (by rw [show gtxts n (x2, s2) (1 + 1) = if fbit n (4 + 1) = true then gtxt (gtxts n (x2, s2) 1) (6 + 1) else gtxts n (x2, s2) 1 from rfl, if_neg hb, HXR.out])
                    clear hvv hb
                    go_wp2_with fail
                    go_roundg (2 - (1 + 1))
                    case rel => exact ⟨1 + 1, ⟨rfl, by omega⟩, by go_num, by rw [HNX.out]; exact HR.out⟩
                    case measure => have := HG.out; omega
              · obtain rfl : i = 2 := by have := HG.out.2; omega
                obtain ⟨y, rf, hyr⟩ : ∃ y rf, gtxts n (x2, s2) 2 = (y, rf) := ⟨_, _, rfl⟩
                have HYR := Lib.hid hyr
                rw [hyr] at HR
                obtain ⟨k', p', t', n', a', m', u', v'⟩ := y
                obtain ⟨j0, j1, j2, j3, j4, j5, j6, j7⟩ := HR.out.box.cells
                obtain ⟨i0, i1, i2, i3, i4, i5, i6, i7⟩ := HR.out.ret.cells
                obtain ⟨g0, g1, g2, g3, g4, g5, g6, g7⟩ := HR.out.ret.frozen
                simp only at j0 j1 j2 j3 j4 j5 j6 j7 i0 i1 i2 i3 i4 i5 i6 i7
                clear hyr
                go_wp2_with fail
                have HFIN := put8_fin HR.out.rd HR.out.kept HR.out.ret (fun e => hrne e.symm) (Nat.le_refl _) k' p' t' n' a' m' u' v'
                refine bodyPost_ret (results_cell_row rfl _ _ w.heap.size 30 (OpR.cells ⟨k', p', t', n', a', m', u', v'⟩) (0, 0) _ rfl HFIN.1 Tryd.underlying30 rfl HI.out) rfl ?_
                rw [HYR.out]
                exact ⟨rfl, HFIN.2⟩
  · have HF : Hid (r.op = (zeroR, r1)) := Lib.hid (by rw [HOP.out, if_pos he])
    rw [HF.out]
    have he2 : (r1.e == 0) = false := by simpa using he
    have he3 : (r1.e != 0) = true := by simpa using he
    clear HOP h hd he hn hr1 hb1
    go_enter Tryd.func71, Tryd.ntmps71
    go_wp2_with fail
    refine HN.out.mono ?_
    rintro e w2 ⟨rfl, h1, h2⟩
    have HQ := Lib.hid (And.intro h1 h2)
    have HRet := Lib.hid (HRB.out.keptBut h2 hrne)
    clear h1 h2 hw1
    have HERR := Lib.hid (fun w' hb => cerr_any b (bs r1.l) r1.e w' (HQ.out.1.below hb))
    go_wp2_with fail
    refine (HERR.out _ ((Below.refl _ _).alloc (Nat.le_refl _) _)).mono ?_
    rintro e w3 ⟨rfl, rfl⟩
    obtain ⟨w3, hw3⟩ : ∃ W, w2.alloc (.cells (OpR.cells ⟨n, 0, 0, 0, 0, 0, ⟨#[]⟩, ⟨#[]⟩⟩) 30) = W := ⟨_, rfl⟩
    have hb3 : Below w2.heap.size w2 w3 := by rw [← hw3]; exact (Below.refl _ _).alloc (Nat.le_refl _) _
    have HRet3 := Lib.hid (HRet.out.below hb3)
    obtain ⟨q0, q1, q2, q3, q4, q5, q6, q7⟩ := HRet3.out.cells
    obtain ⟨y0, y1, y2, y3, y4, y5, y6, y7⟩ := HRet3.out.frozen
    have HB3 := Lib.hid hb3
    simp only [OpR.cells] at hw3
    clear hb3
    go_wp2_with fail
    have HFIN := put8_fin (HQ.out.1.below HB3.out) ((KeptBut.of_below HB1.out).trans (HQ.out.2.trans (KeptBut.of_below HB3.out))) HRet3.out (fun e => hrne e.symm) (Nat.le_refl _) 0 0 0 0 0 0 ⟨#[]⟩ ⟨#[]⟩
    exact bodyPost_ret (results_cell_row rfl _ _ w.heap.size 30 zeroR.cells (0, 0) _ rfl HFIN.1 Tryd.underlying30 rfl HI.out) rfl ⟨rfl, HFIN.2⟩
end Go.Proofs.YtjmfdacnaodfdaaDoor
