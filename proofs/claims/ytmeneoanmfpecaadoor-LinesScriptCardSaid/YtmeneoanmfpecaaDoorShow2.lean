/- package show: the document's vector and version. -/
import Derived.Test.YtmeneoanmfpecaaDoorVersion
namespace Go.Proofs.YtmeneoanmfpecaaDoor
set_option linter.unusedVariables false
set_option linter.unusedSimpArgs false
open Go.RowKit

set_option maxHeartbeats 4000000 in
set_option maxRecDepth 100000 in
theorem rvec_any (A : Option Addr) (c : Nat) (l : List (Int × Int)) (hok : DotsOk l) (hn : l.length ≤ 1000) (w : World) (hd : Door w) (hl : DotsAt w A l) :
    Calls Tryd.prog 32 #[.slice A l.length c] w fun e w' => e = .returned (.string ⟨(vecT l).toArray⟩) ∧ Below w.heap.size w w' := by
  have HOK := Lib.hid hok
  have HD := Lib.hid hd
  have HL := Lib.hid hl
  have hn' : (l.length : Int) ≤ 1000 := by omega
  obtain ⟨n, hnn⟩ : ∃ n, l.length = n := ⟨_, rfl⟩
  have HNN := Lib.hid hnn
  rw [hnn] at hn hn' ⊢
  clear hok hd hl hnn
  go_enter Tryd.func32, Tryd.ntmps32
  go_wp2_with fail
  go_loopg [3, 4] n (fun m t3 t4 wr => ∃ k : Nat, Hid (m = n - k ∧ k ≤ n) ∧ t4 = .int .i64 k ∧ t3 = .string ⟨(123 :: joinT [32] (dotAt l) k).toArray⟩ ∧ Hid (Below w.heap.size w wr))
  case atStart => exact ⟨0, ⟨rfl, Nat.zero_le _⟩, rfl, rfl, Below.refl _ _⟩
  case round =>
    obtain ⟨k, HN, rfl, rfl, HB⟩ := hrel
    have hj : (123 :: joinT [32] (dotAt l) k).length ≤ 44 * n + 1 := by
      have := joinT_bd [32] (dotAt l) 44 k (fun i hi => by
        have := HN.out; have := HNN.out
        have := dotAt_bd l HOK.out i (by omega)
        simp; omega)
      have h2 : 44 * k ≤ 44 * n := Nat.mul_le_mul_left 44 HN.out.2
      simp only [List.length_cons]
      omega
    obtain ⟨S, hS⟩ : ∃ S : ByteArray, ⟨(123 :: joinT [32] (dotAt l) k).toArray⟩ = S := ⟨_, rfl⟩
    have hSz : S.size ≤ 44 * n + 1 := by rw [← hS]; exact hj
    have HS := Lib.hid hS
    rw [hS]
    clear hj hS
    by_cases hlt : k < n
    · have hlt' : (k : Int) < n := by omega
      have hkl : k < l.length := by rw [HNN.out]; exact hlt
      obtain ⟨a, rfl, d0, d1⟩ := (HL.out.below HB.out) k hkl
      have hx := HOK.out l[k] (List.getElem_mem hkl)
      have hT : dotAt l k = dotT l[k].1 l[k].2 := by unfold dotAt; rw [List.getD_eq_getElem?_getD, List.getElem?_eq_getElem hkl]; rfl
      have hTB := dotAt_bd l HOK.out k hkl
      obtain ⟨o, ho⟩ : ∃ o : ByteArray, ⟨(dotAt l k).toArray⟩ = o := ⟨_, rfl⟩
      have hoz : o.size ≤ 43 := by rw [← ho]; exact hTB
      obtain ⟨p, hp⟩ : ∃ p, l[k].1 = p := ⟨_, rfl⟩
      obtain ⟨q, hq⟩ : ∃ q, l[k].2 = q := ⟨_, rfl⟩
      rw [hp] at d0
      rw [hq] at d1
      have HC : Hid (∀ w', Below wr.heap.size wr w' → Calls Tryd.prog 29 #[.agg #[.int .i64 p, .int .i64 q]] w' fun e w2 => e = .returned (.string o) ∧ Below wr.heap.size wr w2) := fun w' hb => by
        rw [← ho, hT, hp, hq]
        exact (rdot_any p q (by rw [← hp]; exact hx.1) (by rw [← hq]; exact hx.2) w' ((HD.out.below HB.out).below hb)).mono fun e w'' h => ⟨h.1, hb.trans (h.2.mono hb.size)⟩
      have HCELL : Hid (∀ w', Below wr.heap.size wr w' → Below wr.heap.size wr w' ∧ w'.cell? (a.add (k * 2)) = some (.int .i64 p) ∧ w'.cell? ⟨(a.add (k * 2)).block, (a.add (k * 2)).off + 1, none⟩ = some (.int .i64 q)) := fun w' hb => ⟨hb, cell_below hb d0, cell_below hb d1⟩
      by_cases h0 : k = 0
      · subst h0
        have HNX : Hid (S ++ o = ⟨(123 :: joinT [32] (dotAt l) 1).toArray⟩) := by
          rw [← HS.out, ← ho]; apply ByteArray.ext; simp [joinT]
        have hadd : ¬ 9223372036854775807 < S.size + o.size := by omega
        simp only [Nat.zero_mul, Addr.add_zero'] at d0 d1
        clear hT hTB ho hp hq hx
        go_wp2_with fail
        refine (HC.out wr (Below.refl _ _)).mono ?_
        rintro e w' ⟨rfl, hqq⟩
        have HB2 : Hid (Below w.heap.size w w') := HB.out.trans (hqq.mono HB.out.size)
        clear hqq
        go_wp2_with fail
        go_roundg (n - (0 + 1))
        case rel => exact ⟨0 + 1, ⟨rfl, hlt⟩, by go_num, by rw [HNX.out], HB2⟩
        case measure => have := HN.out; omega
      · have hk0 : 0 < (k : Int) := by omega
        obtain ⟨U, hU⟩ : ∃ U : ByteArray, S ++ ⟨#[32]⟩ = U := ⟨_, rfl⟩
        have hUz : U.size ≤ 44 * n + 2 := by rw [← hU, ByteArray.size_append]; show S.size + 1 ≤ _; omega
        have HNX : Hid (U ++ o = ⟨(123 :: joinT [32] (dotAt l) (k + 1)).toArray⟩) := by
          rw [← hU, ← HS.out, ← ho]; apply ByteArray.ext; simp [joinT, h0]
        have ha1 : ¬ 9223372036854775807 < S.size + 1 := by omega
        have hadd : ¬ 9223372036854775807 < U.size + o.size := by omega
        clear hT hTB ho hp hq hx h0
        go_wp2_with fail
        refine (HC.out wr (Below.refl _ _)).mono ?_
        rintro e w' ⟨rfl, hqq⟩
        have HB2 : Hid (Below w.heap.size w w') := HB.out.trans (hqq.mono HB.out.size)
        clear hqq
        go_wp2_with fail
        go_roundg (n - (k + 1))
        case rel => exact ⟨k + 1, ⟨rfl, hlt⟩, by go_num, by rw [HNX.out], HB2⟩
        case measure => have := HN.out; omega
    · have hlt' : ¬ (k : Int) < n := by omega
      have hk : k = n := by have := HN.out; omega
      have HF : Hid (S ++ ⟨#[125]⟩ = ⟨(vecT l).toArray⟩) := by
        rw [← HS.out, hk, vecT, HNN.out]; apply ByteArray.ext; simp
      have hadd : ¬ 9223372036854775807 < S.size + 1 := by omega
      clear hk
      go_wp2_with fail
      go_ret
      rw [← HF.out]
      exact ⟨rfl, HB.out⟩

set_option maxHeartbeats 4000000 in
set_option maxRecDepth 100000 in
theorem rversion_any (x : VerR) (hx : x.Ok) (w : World) (hd : Door w) (hl : DotsAt w x.A x.past) :
    Calls Tryd.prog 31 #[.agg x.cells] w fun e w' => e = .returned (.string ⟨(verT x).toArray⟩) ∧ Below w.heap.size w w' := by
  obtain ⟨w1, hw1⟩ : ∃ W, w.alloc (.cells x.cells 54) = W := ⟨_, rfl⟩
  have hb1 : Below w.heap.size w w1 := by rw [← hw1]; exact (Below.refl _ _).alloc (Nat.le_refl _) _
  have hbl : w1.heap[w.heap.size]? = some (.cells x.cells 54 (0, 0)) := by rw [← hw1]; exact World.alloc_heap_new _ _
  have HB1 := Lib.hid hb1
  have HQ : Hid (∀ w', Below w1.heap.size w1 w' → Calls Tryd.prog 41 #[.string x.data] w' fun e w'' => e = .returned (.string ⟨(quoteL x.data.data.toList).toArray⟩) ∧ Below w1.heap.size w1 w'') := fun w' hb => (rquote_any x.data (by have := hx.data; omega) w').mono fun e w'' h => ⟨h.1, hb.trans (h.2.mono hb.size)⟩
  have HDT : Hid (∀ w', Below w1.heap.size w1 w' → Calls Tryd.prog 29 #[.agg #[.int .i64 x.dp, .int .i64 x.dc]] w' fun e w'' => e = .returned (.string ⟨(dotT x.dp x.dc).toArray⟩) ∧ Below w1.heap.size w1 w'') := fun w' hb => (rdot_any x.dp x.dc hx.dp hx.dc w' ((hd.below hb1).below hb)).mono fun e w'' h => ⟨h.1, hb.trans (h.2.mono hb.size)⟩
  have HV : Hid (∀ w', Below w1.heap.size w1 w' → Calls Tryd.prog 32 #[.slice x.A x.past.length x.c] w' fun e w'' => e = .returned (.string ⟨(vecT x.past).toArray⟩) ∧ Below w1.heap.size w1 w'') := fun w' hb => (rvec_any x.A x.c x.past hx.past hx.len w' ((hd.below hb1).below hb) ((hl.below hb1).below hb)).mono fun e w'' h => ⟨h.1, hb.trans (h.2.mono hb.size)⟩
  have hlD := dotT_bd x.dp x.dc hx.dp hx.dc
  have hlV := vecT_bd x.past hx.past
  have hlen := hx.len
  have hlQ : (quoteL x.data.data.toList).length ≤ 3000000000002 := by
    have h := quoteL_bd x.data.data.toList
    have h2 : x.data.data.toList.length = x.data.size := by simp
    have := hx.data
    omega
  obtain ⟨DT, hDT⟩ : ∃ o : ByteArray, ⟨(dotT x.dp x.dc).toArray⟩ = o := ⟨_, rfl⟩
  obtain ⟨VT, hVT⟩ : ∃ o : ByteArray, ⟨(vecT x.past).toArray⟩ = o := ⟨_, rfl⟩
  obtain ⟨QT, hQT⟩ : ∃ o : ByteArray, ⟨(quoteL x.data.data.toList).toArray⟩ = o := ⟨_, rfl⟩
  have hzD : DT.size ≤ 43 := by rw [← hDT]; exact hlD
  have hzV : VT.size ≤ 44002 := by rw [← hVT]; show (vecT x.past).length ≤ _; omega
  have hzQ : QT.size ≤ 3000000000002 := by rw [← hQT]; exact hlQ
  obtain ⟨U1, hU1⟩ : ∃ T : ByteArray, DT ++ ⟨#[32]⟩ = T := ⟨_, rfl⟩
  obtain ⟨U2, hU2⟩ : ∃ T : ByteArray, U1 ++ VT = T := ⟨_, rfl⟩
  obtain ⟨U3, hU3⟩ : ∃ T : ByteArray, U2 ++ ⟨#[32]⟩ = T := ⟨_, rfl⟩
  have hs1 : U1.size ≤ 44 := by rw [← hU1, ByteArray.size_append]; show DT.size + 1 ≤ 44; omega
  have hs2 : U2.size ≤ 44046 := by rw [← hU2, ByteArray.size_append]; omega
  have hs3 : U3.size ≤ 44047 := by rw [← hU3, ByteArray.size_append]; show U2.size + 1 ≤ 44047; omega
  have hg1 : ¬ 9223372036854775807 < DT.size + 1 := by omega
  have hg2 : ¬ 9223372036854775807 < U1.size + VT.size := by omega
  have hg3 : ¬ 9223372036854775807 < U2.size + 1 := by omega
  have HF1 : Hid (x.dead = true → U3 ++ ⟨#[103, 111, 110, 101]⟩ = ⟨(verT x).toArray⟩) := fun hdd => by
    unfold verT whatT
    rw [if_pos hdd, ← hU3, ← hU2, ← hU1, ← hDT, ← hVT]
    apply ByteArray.ext
    simp
  have HF2 : Hid (x.dead = false → U3 ++ QT = ⟨(verT x).toArray⟩) := fun hdd => by
    unfold verT whatT
    rw [if_neg (by simp [hdd]), ← hU3, ← hU2, ← hU1, ← hDT, ← hVT, ← hQT]
    apply ByteArray.ext
    simp
  obtain ⟨R, hR⟩ : ∃ R : ByteArray, ⟨(verT x).toArray⟩ = R := ⟨_, rfl⟩
  rw [hR] at HF1 HF2 ⊢
  rw [hDT] at HDT
  rw [hVT] at HV
  rw [hQT] at HQ
  obtain ⟨dp, dc, A, c, past, dead, data⟩ := x
  simp only at HQ HDT HV HF1 HF2
  have c0 : w1.cell? ⟨w.heap.size, 0, none⟩ = some (.int .i64 dp) := by simp [World.cell?, hbl, VerR.cells]
  have c1 : w1.cell? ⟨w.heap.size, 1, none⟩ = some (.int .i64 dc) := by simp [World.cell?, hbl, VerR.cells]
  have c2 : w1.cell? ⟨w.heap.size, 2, none⟩ = some (.slice A past.length c) := by simp [World.cell?, hbl, VerR.cells]
  have c3 : w1.cell? ⟨w.heap.size, 3, none⟩ = some (.bool dead) := by simp [World.cell?, hbl, VerR.cells]
  have c4 : w1.cell? ⟨w.heap.size, 4, none⟩ = some (.string data) := by simp [World.cell?, hbl, VerR.cells]
  have HCELL : Hid (∀ w', Below w1.heap.size w1 w' → Below w1.heap.size w1 w' ∧ w'.cell? ⟨w.heap.size, 0, none⟩ = some (.int .i64 dp) ∧ w'.cell? ⟨w.heap.size, 1, none⟩ = some (.int .i64 dc) ∧ w'.cell? ⟨w.heap.size, 2, none⟩ = some (.slice A past.length c) ∧ w'.cell? ⟨w.heap.size, 3, none⟩ = some (.bool dead) ∧ w'.cell? ⟨w.heap.size, 4, none⟩ = some (.string data)) := fun w' hb => ⟨hb, cell_below hb c0, cell_below hb c1, cell_below hb c2, cell_below hb c3, cell_below hb c4⟩
  clear hbl hb1 hd hl hx hlD hlV hlen hlQ hDT hVT hQT hR hzD hzV hs1 hs2
  show Calls Tryd.prog 31 #[.agg #[.int .i64 dp, .int .i64 dc, .slice A past.length c, .bool dead, .string data]] w _
  simp only [VerR.cells] at hw1
  go_enter Tryd.func31, Tryd.ntmps31
  go_wp2_with fail
  go_cut [1, 3] (fun t1 t wc => t1 = .pointer (some ⟨w.heap.size, 0, none⟩) ∧ t = .string U3 ∧ Hid (Below w1.heap.size w1 wc))
  case first =>
    go_region_held3 (fun w' => Below w1.heap.size w1 w' ∧ w'.cell? ⟨w.heap.size, 0, none⟩ = some (.int .i64 dp) ∧ w'.cell? ⟨w.heap.size, 1, none⟩ = some (.int .i64 dc) ∧ w'.cell? ⟨w.heap.size, 2, none⟩ = some (.slice A past.length c) ∧ w'.cell? ⟨w.heap.size, 3, none⟩ = some (.bool dead) ∧ w'.cell? ⟨w.heap.size, 4, none⟩ = some (.string data))
      (first | exact HCELL.out _ (by assumption) | exact HCELL.out _ (Below.refl _ _) | exact HCELL.out _ (Below.refl _ _).drew | (go_split_ands; exact HCELL.out _ (by assumption)))
      (first | (go_at_call 29; refine (HDT.out _ ?_).mono ?_; (first | assumption | exact (Below.refl _ _).drew | exact Below.refl _ _ | (go_split_ands; assumption)); rintro e w' ⟨rfl, hq⟩) | (go_at_call 32; refine (HV.out _ ?_).mono ?_; (first | assumption | exact (Below.refl _ _).drew | exact Below.refl _ _ | (go_split_ands; assumption)); rintro e w' ⟨rfl, hq⟩))
    all_goals
      go_wp2_with fail
      go_meet
      exact ⟨rfl, rfl, Lib.hid (by assumption)⟩
  case rest =>
    obtain ⟨rfl, rfl, HBY⟩ := hcut
    clear c0 c1 c2 c3 c4
    obtain ⟨-, d0, d1, d2, d3, d4⟩ := HCELL.out _ HBY.out
    cases dead with
    | true =>
      have HFF := Lib.hid (HF1.out rfl)
      have hg4 : ¬ 9223372036854775807 < U3.size + 4 := by omega
      go_wp2_with fail
      go_ret
      rw [HFF.out]
      exact ⟨rfl, HB1.out.trans (HBY.out.mono HB1.out.size)⟩
    | false =>
      have HFF := Lib.hid (HF2.out rfl)
      have hg4 : ¬ 9223372036854775807 < U3.size + QT.size := by omega
      go_wp2_with fail
      refine (HQ.out _ HBY.out).mono ?_
      rintro e w2 ⟨rfl, hb⟩
      have HB2 := Lib.hid hb
      clear hb
      go_wp2_with fail
      go_ret
      rw [HFF.out]
      exact ⟨rfl, HB1.out.trans (HB2.out.mono HB1.out.size)⟩
end Go.Proofs.YtmeneoanmfpecaaDoor
