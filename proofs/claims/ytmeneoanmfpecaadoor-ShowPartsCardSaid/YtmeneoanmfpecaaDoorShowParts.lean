/- The law ShowParts: its walk. -/
import Derived.Deep.RegionWith
import Derived.Deep.DrawnRows
import Derived.Deep.MidRow
import Derived.Test.YtmeneoanmfpecaaDoorGreat07
import Derived.Test.YtmeneoanmfpecaaDoorAwake38
namespace Go.Proofs.YtmeneoanmfpecaaDoor
set_option linter.unusedVariables false
set_option linter.unusedSimpArgs false
open Go.RowKit

theorem dots_len {l : List (Int × Int)} (h : l.length * 16 ≤ 140737488351232) : l.length ≤ 8796093021952 := by omega
theorem small_ok {L : List VerR} (h : SmallV L) (hr : VersRead L) : VersOk L where
  len := by have := h.len; omega
  each := fun x hx => ⟨(hr x hx).dp, (hr x hx).dc, (hr x hx).past, by have := h.past x hx; omega, by have := h.data x hx; omega⟩
  data := fun x hx => by have := h.data x hx; omega

set_option maxHeartbeats 8000000 in
set_option maxRecDepth 100000 in
theorem showParts_any (A : Option Addr) (c : Nat) (l : List (Int × Int)) (hl : DotsOk l) (g : List UInt8) (h32 : g.length = 32) (p : ByteArray) (A1 : Option Addr) (c1 : Nat) (L : List VerR) (hr : VersRead L) (hL : L.length * 64 ≤ 140737488351232) (w : World) (hd : Door w) (ha : DotsAt w A l) (hv : VersAt w A1 L) :
    Calls Tryd.prog 8 #[.slice A l.length c, .agg (byteV g).toArray, .agg #[.string p, .slice A1 L.length c1]] w fun e w' => e = .returned (.bool true) ∧ Below w.heap.size w w' := by
  obtain ⟨cl, hcl⟩ : ∃ cl, byteV g = cl := ⟨_, rfl⟩
  have hcsz : cl.toArray.size = 32 := by rw [← hcl]; simp [byteV, h32]
  have HONE : Hid (∀ v ∈ cl, v.oneCell' = true) := Lib.hid (by rw [← hcl]; exact byteV_one g)
  have HLEN : Hid (cl.length = 32) := Lib.hid (by rw [← hcl, byteV_length, h32])
  have hcs : (byteV g).toArray = cl.toArray := by rw [hcl]
  rw [hcs]
  obtain ⟨w1, hw1⟩ : ∃ W, w.alloc (.cells cl.toArray 47) = W := ⟨_, rfl⟩
  have hb1 : Below w.heap.size w w1 := by rw [← hw1]; exact (Below.refl _ _).alloc (Nat.le_refl _) _
  have hz1 : w1.heap.size = w.heap.size + 1 := by rw [← hw1]; simp
  have hbl1 : w1.heap[w.heap.size]? = some (.cells cl.toArray 47 (0, 0)) := by rw [← hw1]; exact World.alloc_heap_new _ _
  obtain ⟨w2, hw2⟩ : ∃ W, w1.alloc (.cells #[.string p, .slice A1 L.length c1] 50) = W := ⟨_, rfl⟩
  have hb2 : Below w1.heap.size w1 w2 := by rw [← hw2]; exact (Below.refl _ _).alloc (Nat.le_refl _) _
  have hz2 : w2.heap.size = w.heap.size + 2 := by rw [← hw2]; simp [hz1]
  have hbl2 : w2.heap[w1.heap.size]? = some (.cells #[.string p, .slice A1 L.length c1] 50 (0, 0)) := by rw [← hw2]; exact World.alloc_heap_new _ _
  have hb12 : Below w.heap.size w w2 := hb1.trans (hb2.mono hb1.size)
  have hbl0 : w2.heap[w.heap.size]? = some (.cells cl.toArray 47 (0, 0)) := by rw [hb2.block _ (by omega)]; exact hbl1
  have c0 : w2.cell? ⟨w1.heap.size, 0, none⟩ = some (.string p) := by simp [World.cell?, hbl2]
  have c1' : w2.cell? ⟨w1.heap.size, 1, none⟩ = some (.slice A1 L.length c1) := by simp [World.cell?, hbl2]
  have HB12 := Lib.hid hb12
  have HBLK : Hid (∀ w', Below w2.heap.size w2 w' → w'.heap[w.heap.size]? = some (.cells cl.toArray 47 (0, 0))) := fun w' hb => by rw [hb.block _ (by omega)]; exact hbl0
  have HC2 : Hid (∀ w', Below w2.heap.size w2 w' → w'.cell? ⟨w1.heap.size, 0, none⟩ = some (.string p) ∧ w'.cell? ⟨w1.heap.size, 1, none⟩ = some (.slice A1 L.length c1)) := fun w' hb => ⟨cell_below hb c0, cell_below hb c1'⟩
  have HSZ : Hid ((Tryd.prog.info? 47).map (·.size) = some cl.length) := Lib.hid (by rw [HLEN.out]; kernel_rfl)
  have hd2 := hd.below hb12
  have ha2 := ha.below hb12
  have hv2 := hv.below hb12
  have HA : Hid (∀ w', Below w2.heap.size w2 w' → Calls Tryd.prog 22 #[] w' fun e w'' => e = .returned (.bool true) ∧ Below w2.heap.size w2 w'') := fun w' hb => (awake38_any w' (hd2.below hb)).mono fun e w'' h => ⟨h.1, hb.trans (h.2.mono hb.size)⟩
  have HGR : Hid (∀ w' b, Below w2.heap.size w2 w' → w'.cell? ⟨b, 0, none⟩ = some (.slice A1 L.length c1) → Calls Tryd.prog 28 #[.slice (some ⟨b, 0, none⟩) 1 1] w' fun e w'' => Great07Ok L e ∧ Below w2.heap.size w2 w'') := fun w' b hb hc => (great07_any b A1 c1 L w' hc (hv2.below hb) hr hL).mono fun e w'' h => ⟨h.1, hb.trans (h.2.mono hb.size)⟩
  obtain ⟨n, hn⟩ : ∃ n, l.length = n := ⟨_, rfl⟩
  obtain ⟨m, hm⟩ : ∃ m, L.length = m := ⟨_, rfl⟩
  have HN := Lib.hid hn
  have HM := Lib.hid hm
  rw [hm] at HC2 HGR hw2
  have hm' : (m : Int) ≤ 2199023255488 := by omega
  have HMAIN : Hid (SmallV L → l.length ≤ 80 → p.size ≤ 200 →
      (∀ x ∈ l, ∀ w0 w', Below w2.heap.size w2 w0 → Below w0.heap.size w0 w' → (Calls Tryd.prog 25 #[.agg #[.int .i64 x.1, .int .i64 x.2]] w' fun e w'' => e = .returned (.string ⟨(dotT x.1 x.2).toArray⟩) ∧ Below w0.heap.size w0 w'') ∧ (Calls Tryd.prog 29 #[.agg #[.int .i64 x.1, .int .i64 x.2]] w' fun e w'' => e = .returned (.string ⟨(dotT x.1 x.2).toArray⟩) ∧ Below w0.heap.size w0 w'')) ∧
      (∀ k (hk : k < L.length), ∀ w0 w', Below w2.heap.size w2 w0 → Below w0.heap.size w0 w' → (Calls Tryd.prog 30 #[.agg L[k].cells] w' fun e w'' => e = .returned (.string ⟨(verT L[k]).toArray⟩) ∧ Below w0.heap.size w0 w'') ∧ (Calls Tryd.prog 31 #[.agg L[k].cells] w' fun e w'' => e = .returned (.string ⟨(verT L[k]).toArray⟩) ∧ Below w0.heap.size w0 w'')) ∧
      (∀ w', Below w2.heap.size w2 w' → (Calls Tryd.prog 26 #[.slice A n c] w' fun e w'' => e = .returned (.string ⟨(vecT l).toArray⟩) ∧ Below w2.heap.size w2 w'') ∧ (Calls Tryd.prog 32 #[.slice A n c] w' fun e w'' => e = .returned (.string ⟨(vecT l).toArray⟩) ∧ Below w2.heap.size w2 w'')) ∧
      (∀ w', Below w2.heap.size w2 w' → (Calls Tryd.prog 33 #[.agg cl.toArray] w' fun e w'' => e = .returned (.string ((⟨(hexL g).toArray⟩ : ByteArray).extract 0 8)) ∧ Below w2.heap.size w2 w'') ∧ (Calls Tryd.prog 34 #[.agg cl.toArray] w' fun e w'' => e = .returned (.string ((⟨(hexL g).toArray⟩ : ByteArray).extract 0 8)) ∧ Below w2.heap.size w2 w'')) ∧
      (∀ w', Below w2.heap.size w2 w' → (Calls Tryd.prog 35 #[.agg #[.string p, .slice A1 m c1]] w' fun e w'' => e = .returned (.string ⟨(entT p.data.toList L).toArray⟩) ∧ Below w2.heap.size w2 w'') ∧ (Calls Tryd.prog 36 #[.agg #[.string p, .slice A1 m c1]] w' fun e w'' => e = .returned (.string ⟨(entT p.data.toList L).toArray⟩) ∧ Below w2.heap.size w2 w''))) := by
    intro hs hl80 hp200
    have hok := small_ok hs hr
    refine ⟨fun x hx w0 w' h0 hb' => ⟨(dot_any x.1 x.2 (hl x hx).1 (hl x hx).2 w' ((hd2.below h0).below hb')).mono fun e w'' h => ⟨h.1, hb'.trans (h.2.mono hb'.size)⟩, (rdot_any x.1 x.2 (hl x hx).1 (hl x hx).2 w' ((hd2.below h0).below hb')).mono fun e w'' h => ⟨h.1, hb'.trans (h.2.mono hb'.size)⟩⟩, ?_, ?_, ?_, ?_⟩
    · intro k hk w0 w' h0 hb'
      obtain ⟨_, _, _, _, _, _, _, hpd⟩ := ((hv2.below h0).below hb') k hk
      have hx := hok.each L[k] (List.getElem_mem hk)
      exact ⟨(version_any L[k] hx w' ((hd2.below h0).below hb') hpd).mono fun e w'' h => ⟨h.1, hb'.trans (h.2.mono hb'.size)⟩, (rversion_any L[k] hx w' ((hd2.below h0).below hb') hpd).mono fun e w'' h => ⟨h.1, hb'.trans (h.2.mono hb'.size)⟩⟩
    · intro w' hb'
      rw [← hn]
      exact ⟨(vec_any A c l hl (by omega) w' (hd2.below hb') (ha2.below hb')).mono fun e w'' h => ⟨h.1, hb'.trans (h.2.mono hb'.size)⟩, (rvec_any A c l hl (by omega) w' (hd2.below hb') (ha2.below hb')).mono fun e w'' h => ⟨h.1, hb'.trans (h.2.mono hb'.size)⟩⟩
    · intro w' hb'
      rw [← hcs]
      exact ⟨(short_any g h32 w').mono fun e w'' h => ⟨h.1, hb'.trans (h.2.mono hb'.size)⟩, (rshort_any g h32 w').mono fun e w'' h => ⟨h.1, hb'.trans (h.2.mono hb'.size)⟩⟩
    · intro w' hb'
      rw [← hm]
      exact ⟨(entry_any p (by omega) A1 c1 L hok w' (hd2.below hb') (hv2.below hb')).mono fun e w'' h => ⟨h.1, hb'.trans (h.2.mono hb'.size)⟩, (rentry_any p (by omega) A1 c1 L hok w' (hd2.below hb') (hv2.below hb')).mono fun e w'' h => ⟨h.1, hb'.trans (h.2.mono hb'.size)⟩⟩
  have HAT := Lib.hid ha2
  have HVT := Lib.hid hv2
  obtain ⟨w3, hw3⟩ : ∃ W, w2.alloc (.cells #[.slice A1 m c1] 48) = W := ⟨_, rfl⟩
  have hb3 : Below w2.heap.size w2 w3 := by rw [← hw3]; exact (Below.refl _ _).alloc (Nat.le_refl _) _
  have hbl3 : w3.heap[w2.heap.size]? = some (.cells #[.slice A1 m c1] 48 (0, 0)) := by rw [← hw3]; exact World.alloc_heap_new _ _
  have cg : w3.cell? ⟨w2.heap.size, 0, none⟩ = some (.slice A1 m c1) := by simp [World.cell?, hbl3]
  have HB3 := Lib.hid hb3
  have HCG := Lib.hid cg
  rw [hn, hm]
  rw [hm] at c1'
  clear hd ha hv hd2 ha2 hv2 hl hr hL hbl1 hbl2 hbl3 hb1 hb2 hb3 hz1 hz2 hb12 hbl0 hcsz h32 hcs hcl hn hm cg
  by_cases h80 : 80 < (n : Int)
  · clear hw3
    go_enter Tryd.func8, Tryd.ntmps8
    go_wp2_with fail
    refine (HA.out _ (Below.refl _ _)).mono ?_
    rintro e w' ⟨rfl, hb⟩
    have HB := Lib.hid hb
    clear hb
    go_wp2_with fail
    go_ret
    exact ⟨rfl, HB12.out.trans (HB.out.mono HB12.out.size)⟩
  by_cases h200 : 200 < (p.size : Int)
  · clear hw3
    go_enter Tryd.func8, Tryd.ntmps8
    go_wp2_with fail
    refine (HA.out _ (Below.refl _ _)).mono ?_
    rintro e w' ⟨rfl, hb⟩
    have HB := Lib.hid hb
    clear hb
    go_wp2_with fail
    go_ret
    exact ⟨rfl, HB12.out.trans (HB.out.mono HB12.out.size)⟩
  go_enter Tryd.func8, Tryd.ntmps8
  go_wp2_with fail
  refine (HGR.out w3 _ HB3.out HCG.out).mono ?_
  rintro e w4 ⟨⟨b, rfl, hsm⟩, hb4⟩
  have HB4 := Lib.hid hb4
  have HSM := Lib.hid hsm
  clear hb4 hsm c0 c1'
  cases b with
  | true =>
    go_wp2_with fail
    refine (HA.out _ HB4.out).mono ?_
    rintro e w' ⟨rfl, hb⟩
    have HB := Lib.hid hb
    clear hb
    go_wp2_with fail
    go_ret
    exact ⟨rfl, HB12.out.trans (HB.out.mono HB12.out.size)⟩
  | false =>
    obtain ⟨hD, hV, hVec, hSh, hEn⟩ := HMAIN.out (HSM.out rfl) (by have := HN.out; omega) (by omega)
    have HD := Lib.hid hD
    have HV := Lib.hid hV
    have HVEC := Lib.hid hVec
    have HSH := Lib.hid hSh
    have HEN := Lib.hid hEn
    clear hD hV hVec hSh hEn HMAIN HSM HGR HB3 HCG hw3
    go_wp2_with fail
    go_loopg [7] n (fun g t7 wr => ∃ k : Nat, Hid (g = n - k ∧ k ≤ n) ∧ t7 = .int .i64 k ∧ Hid (Below w2.heap.size w2 wr))
    case atStart => exact ⟨0, ⟨rfl, Nat.zero_le _⟩, rfl, HB4⟩
    case round =>
      obtain ⟨k, HK, rfl, HB⟩ := hrel
      by_cases hlt : k < n
      · have hlt' : (k : Int) < n := by omega
        have hkl : k < l.length := by rw [HN.out]; exact hlt
        obtain ⟨a, rfl, d0, d1⟩ := (HAT.out.below HB.out) k hkl
        have HDD := Lib.hid (HD.out l[k] (List.getElem_mem hkl))
        obtain ⟨x, hx⟩ : ∃ x, l[k] = x := ⟨_, rfl⟩
        rw [hx] at d0 d1 HDD
        obtain ⟨p1, q1⟩ := x
        simp only at d0 d1 HDD
        obtain ⟨o, ho⟩ : ∃ o : ByteArray, ⟨(dotT p1 q1).toArray⟩ = o := ⟨_, rfl⟩
        rw [ho] at HDD
        have HCELL : Hid (∀ w', Below wr.heap.size wr w' → Below wr.heap.size wr w' ∧ w'.cell? (a.add (k * 2)) = some (.int .i64 p1) ∧ w'.cell? ⟨(a.add (k * 2)).block, (a.add (k * 2)).off + 1, none⟩ = some (.int .i64 q1)) := fun w' hb => ⟨hb, cell_below hb d0, cell_below hb d1⟩
        clear hx ho hkl
        go_wp2_with fail
        go_cut [41] (fun t wc => t = .bool false ∧ Hid (Below wr.heap.size wr wc))
        case first =>
          go_region_held3 (fun w' => Below wr.heap.size wr w' ∧ w'.cell? (a.add (k * 2)) = some (.int .i64 p1) ∧ w'.cell? ⟨(a.add (k * 2)).block, (a.add (k * 2)).off + 1, none⟩ = some (.int .i64 q1))
            (first | exact HCELL.out _ (by assumption) | exact HCELL.out _ (Below.refl _ _) | exact HCELL.out _ (Below.refl _ _).drew | (go_split_ands; exact HCELL.out _ (by assumption)))
            (first | (go_at_call 25; (with_reducible refine (HDD.out wr _ HB.out ?_).1.mono ?_); (first | assumption | exact (Below.refl _ _).drew | exact Below.refl _ _ | (go_split_ands; assumption)); rintro e w' ⟨rfl, hq⟩) | (go_at_call 29; (with_reducible refine (HDD.out wr _ HB.out ?_).2.mono ?_); (first | assumption | exact (Below.refl _ _).drew | exact Below.refl _ _ | (go_split_ands; assumption)); rintro e w' ⟨rfl, hq⟩))
          all_goals
            go_wp2_with fail
            go_meet
            exact ⟨rfl, Lib.hid (by assumption)⟩
        case rest =>
          obtain ⟨rfl, HBY⟩ := hcut
          go_wp2_with fail
          go_roundg (n - (k + 1))
          case rel => exact ⟨k + 1, ⟨rfl, hlt⟩, by go_num, HB.out.trans (HBY.out.mono HB.out.size)⟩
          case measure => have := HK.out; omega
      · have hlt' : ¬ (k : Int) < n := by omega
        clear HK hlt HD HAT
        obtain ⟨w5, hw5⟩ : ∃ W : World, W = wr := ⟨_, rfl⟩
        rw [← hw5] at HB ⊢
        clear hw5
        go_wp2_with fail
        go_loopg [8] m (fun g t8 wr => ∃ k : Nat, Hid (g = m - k ∧ k ≤ m) ∧ t8 = .int .i64 k ∧ Hid (Below w2.heap.size w2 wr))
        case atStart => exact ⟨0, ⟨rfl, Nat.zero_le _⟩, rfl, HB⟩
        case round =>
          clear HB
          obtain ⟨k, HK, rfl, HB⟩ := hrel
          obtain ⟨e0, e1⟩ := HC2.out _ HB.out
          by_cases hlt : k < m
          · have hlm : (k : Int) < m := by omega
            have hkl : k < L.length := by rw [HM.out]; exact hlt
            obtain ⟨a, rfl, d0, d1, d2, d3, d4, -⟩ := (HVT.out.below HB.out) k hkl
            have HVV := Lib.hid (HV.out k hkl)
            obtain ⟨x, hx⟩ : ∃ x, L[k] = x := ⟨_, rfl⟩
            rw [hx] at d0 d1 d2 d3 d4 HVV
            obtain ⟨o, ho⟩ : ∃ o : ByteArray, ⟨(verT x).toArray⟩ = o := ⟨_, rfl⟩
            rw [ho] at HVV
            obtain ⟨dp, dc, A2, c2, past, dead, data⟩ := x
            simp only [VerR.cells] at HVV
            obtain ⟨pl, hpl⟩ : ∃ n, past.length = n := ⟨_, rfl⟩
            simp only at d0 d1 d2 d3 d4
            rw [hpl] at HVV d2
            have HCELL : Hid (∀ w', Below wr.heap.size wr w' → Below wr.heap.size wr w' ∧ w'.cell? ⟨w1.heap.size, 1, none⟩ = some (.slice (some a) m c1) ∧ w'.cell? (a.add (k * 5)) = some (.int .i64 dp) ∧ w'.cell? ⟨(a.add (k * 5)).block, (a.add (k * 5)).off + 1, none⟩ = some (.int .i64 dc) ∧ w'.cell? ⟨(a.add (k * 5)).block, (a.add (k * 5)).off + 2, none⟩ = some (.slice A2 pl c2) ∧ w'.cell? ⟨(a.add (k * 5)).block, (a.add (k * 5)).off + 3, none⟩ = some (.bool dead) ∧ w'.cell? ⟨(a.add (k * 5)).block, (a.add (k * 5)).off + 4, none⟩ = some (.string data)) := fun w' hb => ⟨hb, cell_below hb e1, cell_below hb d0, cell_below hb d1, cell_below hb d2, cell_below hb d3, cell_below hb d4⟩
            clear hx ho hkl hpl e0
            go_wp2_with fail
            go_cut [61] (fun t wc => t = .bool false ∧ Hid (Below wr.heap.size wr wc))
            case first =>
              go_region_held3 (fun w' => Below wr.heap.size wr w' ∧ w'.cell? ⟨w1.heap.size, 1, none⟩ = some (.slice (some a) m c1) ∧ w'.cell? (a.add (k * 5)) = some (.int .i64 dp) ∧ w'.cell? ⟨(a.add (k * 5)).block, (a.add (k * 5)).off + 1, none⟩ = some (.int .i64 dc) ∧ w'.cell? ⟨(a.add (k * 5)).block, (a.add (k * 5)).off + 2, none⟩ = some (.slice A2 pl c2) ∧ w'.cell? ⟨(a.add (k * 5)).block, (a.add (k * 5)).off + 3, none⟩ = some (.bool dead) ∧ w'.cell? ⟨(a.add (k * 5)).block, (a.add (k * 5)).off + 4, none⟩ = some (.string data))
                (first | exact HCELL.out _ (by assumption) | exact HCELL.out _ (Below.refl _ _) | exact HCELL.out _ (Below.refl _ _).drew | (go_split_ands; exact HCELL.out _ (by assumption)))
                (first | (go_at_call 30; (with_reducible refine (HVV.out wr _ HB.out ?_).1.mono ?_); (first | assumption | exact (Below.refl _ _).drew | exact Below.refl _ _ | (go_split_ands; assumption)); rintro e w' ⟨rfl, hq⟩) | (go_at_call 31; (with_reducible refine (HVV.out wr _ HB.out ?_).2.mono ?_); (first | assumption | exact (Below.refl _ _).drew | exact Below.refl _ _ | (go_split_ands; assumption)); rintro e w' ⟨rfl, hq⟩))
              all_goals
                go_wp2_with fail
                go_meet
                exact ⟨rfl, Lib.hid (by assumption)⟩
            case rest =>
              obtain ⟨rfl, HBY⟩ := hcut
              go_wp2_with fail
              go_roundg (m - (k + 1))
              case rel => exact ⟨k + 1, ⟨rfl, hlt⟩, by go_num, HB.out.trans (HBY.out.mono HB.out.size)⟩
              case measure => have := HK.out; omega
          · have hlm : ¬ (k : Int) < m := by omega
            clear HK hlt HV HVT
            clear e0
            go_wp2_with fail
            have hu := Tryd.underlying47
            have hi := HSZ.out
            have HKEEP : Hid (∀ w', Below w2.heap.size w2 w' → Below w2.heap.size w2 w' ∧ w'.cell? ⟨w1.heap.size, 0, none⟩ = some (.string p) ∧ w'.cell? ⟨w1.heap.size, 1, none⟩ = some (.slice A1 m c1) ∧ w'.rangeAt w.heap.size 0 cl) := fun w' hb => ⟨hb, (HC2.out w' hb).1, (HC2.out w' hb).2, by
              have := World.rangeAt_of_block (HBLK.out w' hb) 0 cl.length
              simpa using this⟩
            obtain ⟨VT, hVT⟩ : ∃ o : ByteArray, ⟨(vecT l).toArray⟩ = o := ⟨_, rfl⟩
            obtain ⟨ST, hST⟩ : ∃ o : ByteArray, (⟨(hexL g).toArray⟩ : ByteArray).extract 0 8 = o := ⟨_, rfl⟩
            obtain ⟨ET, hET⟩ : ∃ o : ByteArray, ⟨(entT p.data.toList L).toArray⟩ = o := ⟨_, rfl⟩
            rw [hVT] at HVEC
            rw [hST] at HSH
            rw [hET] at HEN
            clear e1 hVT hST hET HC2 HBLK HSZ HLEN HONE
            go_cut [6] (fun t wc => t = .bool true ∧ Hid (Below w2.heap.size w2 wc))
            case first =>
              refine wp_region_held_drew (S := (fun w' => Below w2.heap.size w2 w' ∧ w'.cell? ⟨w1.heap.size, 0, none⟩ = some (.string p) ∧ w'.cell? ⟨w1.heap.size, 1, none⟩ = some (.slice A1 m c1) ∧ w'.rangeAt w.heap.size 0 cl)) (by kernel_rfl) ?_ (fun hHeld => ?_)
              · first | exact HKEEP.out _ (by assumption) | exact HKEEP.out _ HB.out.drew
              refine wpAnyH_take (i := 0) (oi := _) (v := ?_) rfl (by kernel_rfl) (by kernel_rfl) (by kernel_rfl) (fun _ _ _ h => h) (Or.inl ⟨by rfl, ?_⟩) (by assumption) ?_
              rotate_left
              · intro w hSw
                try dsimp only at hSw
                go_simp
                try with_reducible rfl
              try simp only [Act.put, List.setIfInBounds_toArray, List.set_cons_zero, List.set_cons_succ, List.getElem_toArray, List.getElem_cons_zero, List.getElem_cons_succ]
              refine wpAnyH_take (i := 2) (oi := _) (v := ?_) rfl (by kernel_rfl) (by kernel_rfl) (by kernel_rfl) (fun _ _ _ h => h) (Or.inl ⟨by rfl, ?_⟩) (by assumption) ?_
              rotate_left
              · intro w hSw
                try dsimp only at hSw
                go_simp
                try with_reducible rfl
              try simp only [Act.put, List.setIfInBounds_toArray, List.set_cons_zero, List.set_cons_succ, List.getElem_toArray, List.getElem_cons_zero, List.getElem_cons_succ]
              refine wpAnyH_ready (rs := [1]) (by kernel_rfl) (by simp) ?_
              refine AllReadyH.cons (o := _) rfl (fun K hK => ?_) AllReadyH.nil
              go_simp
              refine (HVEC.out _ (by first | assumption | exact HB.out.drew | (go_split_ands; assumption))).1.mono ?_
              rintro e w' ⟨rfl, hq⟩
              go_wp2_with fail
              refine hK.out _ _ ?_ (fun hHeld => ?_)
              · first | exact HKEEP.out _ (by assumption) | exact HKEEP.out _ HB.out.drew
              clear hK K
              try simp only [Act.put, List.setIfInBounds_toArray, List.set_cons_zero, List.set_cons_succ, List.getElem_toArray, List.getElem_cons_zero, List.getElem_cons_succ]
              refine wpAnyH_ready (rs := [3]) (by kernel_rfl) (by simp) ?_
              refine AllReadyH.cons (o := _) rfl (fun K hK => ?_) AllReadyH.nil
              go_simp
              refine (HVEC.out _ (by first | assumption | exact HB.out.drew | (go_split_ands; assumption))).2.mono ?_
              rintro e w' ⟨rfl, hq⟩
              go_wp2_with fail
              refine hK.out _ _ ?_ (fun hHeld => ?_)
              · first | exact HKEEP.out _ (by assumption) | exact HKEEP.out _ HB.out.drew
              clear hK K
              try simp only [Act.put, List.setIfInBounds_toArray, List.set_cons_zero, List.set_cons_succ, List.getElem_toArray, List.getElem_cons_zero, List.getElem_cons_succ]
              refine wpAnyH_take (i := 4) (oi := _) (v := ?_) rfl (by kernel_rfl) (by kernel_rfl) (by kernel_rfl) (fun _ _ _ h => h) (Or.inl ⟨by rfl, ?_⟩) (by assumption) ?_
              rotate_left
              · intro w hSw
                try dsimp only at hSw
                go_simp
                try with_reducible rfl
              try simp only [Act.put, List.setIfInBounds_toArray, List.set_cons_zero, List.set_cons_succ, List.getElem_toArray, List.getElem_cons_zero, List.getElem_cons_succ]
              refine wpAnyH_take (i := 5) (oi := _) (v := ?_) rfl (by kernel_rfl) (by kernel_rfl) (by kernel_rfl) (fun _ _ _ h => h) (Or.inl ⟨by rfl, ?_⟩) (by assumption) ?_
              rotate_left
              · intro w hSw
                try dsimp only at hSw
                go_simp
                try with_reducible rfl
              try simp only [Act.put, List.setIfInBounds_toArray, List.set_cons_zero, List.set_cons_succ, List.getElem_toArray, List.getElem_cons_zero, List.getElem_cons_succ]
              refine wpAnyH_take (i := 6) (oi := _) (v := _) rfl (by kernel_rfl) (by kernel_rfl) (by kernel_rfl) (fun _ _ _ h => h) (yieldsIf_load_mid (by rfl) _ _ rfl _ _ rfl _ _ (fun w hSw => ?_) hu rfl hi) (by assumption) ?_
              · (try dsimp only at hSw); go_split_ands; assumption
              try simp only [Act.put, List.setIfInBounds_toArray, List.set_cons_zero, List.set_cons_succ, List.getElem_toArray, List.getElem_cons_zero, List.getElem_cons_succ]
              refine wpAnyH_take (i := 8) (oi := _) (v := _) rfl (by kernel_rfl) (by kernel_rfl) (by kernel_rfl) (fun _ _ _ h => h) (yieldsIf_load_mid (by rfl) _ _ rfl _ _ rfl _ _ (fun w hSw => ?_) hu rfl hi) (by assumption) ?_
              · (try dsimp only at hSw); go_split_ands; assumption
              try simp only [Act.put, List.setIfInBounds_toArray, List.set_cons_zero, List.set_cons_succ, List.getElem_toArray, List.getElem_cons_zero, List.getElem_cons_succ]
              refine wpAnyH_ready (rs := [7]) (by kernel_rfl) (by simp) ?_
              refine AllReadyH.cons (o := _) rfl (fun K hK => ?_) AllReadyH.nil
              go_simp
              refine (HSH.out _ (by first | assumption | exact HB.out.drew | (go_split_ands; assumption))).1.mono ?_
              rintro e w' ⟨rfl, hq⟩
              go_wp2_with fail
              refine hK.out _ _ ?_ (fun hHeld => ?_)
              · first | exact HKEEP.out _ (by assumption) | exact HKEEP.out _ HB.out.drew
              clear hK K
              try simp only [Act.put, List.setIfInBounds_toArray, List.set_cons_zero, List.set_cons_succ, List.getElem_toArray, List.getElem_cons_zero, List.getElem_cons_succ]
              refine wpAnyH_ready (rs := [9]) (by kernel_rfl) (by simp) ?_
              refine AllReadyH.cons (o := _) rfl (fun K hK => ?_) AllReadyH.nil
              go_simp
              refine (HSH.out _ (by first | assumption | exact HB.out.drew | (go_split_ands; assumption))).2.mono ?_
              rintro e w' ⟨rfl, hq⟩
              go_wp2_with fail
              refine hK.out _ _ ?_ (fun hHeld => ?_)
              · first | exact HKEEP.out _ (by assumption) | exact HKEEP.out _ HB.out.drew
              clear hK K
              try simp only [Act.put, List.setIfInBounds_toArray, List.set_cons_zero, List.set_cons_succ, List.getElem_toArray, List.getElem_cons_zero, List.getElem_cons_succ]
              refine wpAnyH_take (i := 10) (oi := _) (v := ?_) rfl (by kernel_rfl) (by kernel_rfl) (by kernel_rfl) (fun _ _ _ h => h) (Or.inl ⟨by rfl, ?_⟩) (by assumption) ?_
              rotate_left
              · intro w hSw
                try dsimp only at hSw
                go_simp
                try with_reducible rfl
              try simp only [Act.put, List.setIfInBounds_toArray, List.set_cons_zero, List.set_cons_succ, List.getElem_toArray, List.getElem_cons_zero, List.getElem_cons_succ]
              refine wpAnyH_take (i := 11) (oi := _) (v := ?_) rfl (by kernel_rfl) (by kernel_rfl) (by kernel_rfl) (fun _ _ _ h => h) (Or.inl ⟨by rfl, ?_⟩) (by assumption) ?_
              rotate_left
              · intro w hSw
                try dsimp only at hSw
                go_simp
                try with_reducible rfl
              try simp only [Act.put, List.setIfInBounds_toArray, List.set_cons_zero, List.set_cons_succ, List.getElem_toArray, List.getElem_cons_zero, List.getElem_cons_succ]
              refine wpAnyH_take (i := 12) (oi := _) (v := ?_) rfl (by kernel_rfl) (by kernel_rfl) (by kernel_rfl) (fun _ _ _ h => h) (Or.inl ⟨by rfl, ?_⟩) (by assumption) ?_
              rotate_left
              · intro w hSw
                try dsimp only at hSw
                go_simp
                try with_reducible rfl
              try simp only [Act.put, List.setIfInBounds_toArray, List.set_cons_zero, List.set_cons_succ, List.getElem_toArray, List.getElem_cons_zero, List.getElem_cons_succ]
              refine wpAnyH_take (i := 13) (oi := _) (v := ?_) rfl (by kernel_rfl) (by kernel_rfl) (by kernel_rfl) (fun _ _ _ h => h) (Or.inl ⟨by rfl, ?_⟩) (by assumption) ?_
              rotate_left
              · intro w hSw
                try dsimp only at hSw
                go_simp
                try with_reducible rfl
              try simp only [Act.put, List.setIfInBounds_toArray, List.set_cons_zero, List.set_cons_succ, List.getElem_toArray, List.getElem_cons_zero, List.getElem_cons_succ]
              refine wpAnyH_take (i := 15) (oi := _) (v := ?_) rfl (by kernel_rfl) (by kernel_rfl) (by kernel_rfl) (fun _ _ _ h => h) (Or.inl ⟨by rfl, ?_⟩) (by assumption) ?_
              rotate_left
              · intro w hSw
                try dsimp only at hSw
                go_simp
                try with_reducible rfl
              try simp only [Act.put, List.setIfInBounds_toArray, List.set_cons_zero, List.set_cons_succ, List.getElem_toArray, List.getElem_cons_zero, List.getElem_cons_succ]
              refine wpAnyH_ready (rs := [14]) (by kernel_rfl) (by simp) ?_
              refine AllReadyH.cons (o := _) rfl (fun K hK => ?_) AllReadyH.nil
              go_simp
              refine (HEN.out _ (by first | assumption | exact HB.out.drew | (go_split_ands; assumption))).1.mono ?_
              rintro e w' ⟨rfl, hq⟩
              go_wp2_with fail
              refine hK.out _ _ ?_ (fun hHeld => ?_)
              · first | exact HKEEP.out _ (by assumption) | exact HKEEP.out _ HB.out.drew
              clear hK K
              try simp only [Act.put, List.setIfInBounds_toArray, List.set_cons_zero, List.set_cons_succ, List.getElem_toArray, List.getElem_cons_zero, List.getElem_cons_succ]
              refine wpAnyH_ready (rs := [16]) (by kernel_rfl) (by simp) ?_
              refine AllReadyH.cons (o := _) rfl (fun K hK => ?_) AllReadyH.nil
              go_simp
              refine (HEN.out _ (by first | assumption | exact HB.out.drew | (go_split_ands; assumption))).2.mono ?_
              rintro e w' ⟨rfl, hq⟩
              go_wp2_with fail
              refine hK.out _ _ ?_ (fun hHeld => ?_)
              · first | exact HKEEP.out _ (by assumption) | exact HKEEP.out _ HB.out.drew
              clear hK K
              try simp only [Act.put, List.setIfInBounds_toArray, List.set_cons_zero, List.set_cons_succ, List.getElem_toArray, List.getElem_cons_zero, List.getElem_cons_succ]
              refine wpAnyH_take (i := 17) (oi := _) (v := ?_) rfl (by kernel_rfl) (by kernel_rfl) (by kernel_rfl) (fun _ _ _ h => h) (Or.inl ⟨by rfl, ?_⟩) (by assumption) ?_
              rotate_left
              · intro w hSw
                try dsimp only at hSw
                go_simp
                try with_reducible rfl
              try simp only [Act.put, List.setIfInBounds_toArray, List.set_cons_zero, List.set_cons_succ, List.getElem_toArray, List.getElem_cons_zero, List.getElem_cons_succ]
              refine wpAnyH_take (i := 18) (oi := _) (v := ?_) rfl (by kernel_rfl) (by kernel_rfl) (by kernel_rfl) (fun _ _ _ h => h) (Or.inl ⟨by rfl, ?_⟩) (by assumption) ?_
              rotate_left
              · intro w hSw
                try dsimp only at hSw
                go_simp
                try with_reducible rfl
              try simp only [Act.put, List.setIfInBounds_toArray, List.set_cons_zero, List.set_cons_succ, List.getElem_toArray, List.getElem_cons_zero, List.getElem_cons_succ]
              refine wpAnyH_take (i := 19) (oi := _) (v := ?_) rfl (by kernel_rfl) (by kernel_rfl) (by kernel_rfl) (fun _ _ _ h => h) (Or.inl ⟨by rfl, ?_⟩) (by assumption) ?_
              rotate_left
              · intro w hSw
                try dsimp only at hSw
                go_simp
                try with_reducible rfl
              try simp only [Act.put, List.setIfInBounds_toArray, List.set_cons_zero, List.set_cons_succ, List.getElem_toArray, List.getElem_cons_zero, List.getElem_cons_succ]
              refine wpAnyH_ready (rs := [20]) (by kernel_rfl) (by simp) ?_
              refine AllReadyH.cons (o := _) rfl (fun K hK => ?_) AllReadyH.nil
              go_simp
              refine (HA.out _ (by first | assumption | exact HB.out.drew | (go_split_ands; assumption))).mono ?_
              rintro e w' ⟨rfl, hq⟩
              go_wp2_with fail
              refine hK.out _ _ ?_ (fun hHeld => ?_)
              · first | exact HKEEP.out _ (by assumption) | exact HKEEP.out _ HB.out.drew
              clear hK K
              try simp only [Act.put, List.setIfInBounds_toArray, List.set_cons_zero, List.set_cons_succ, List.getElem_toArray, List.getElem_cons_zero, List.getElem_cons_succ]
              refine wpAnyH_take (i := 21) (oi := _) (v := ?_) rfl (by kernel_rfl) (by kernel_rfl) (by kernel_rfl) (fun _ _ _ h => h) (Or.inl ⟨by rfl, ?_⟩) (by assumption) ?_
              rotate_left
              · intro w hSw
                try dsimp only at hSw
                go_simp
                try with_reducible rfl
              try simp only [Act.put, List.setIfInBounds_toArray, List.set_cons_zero, List.set_cons_succ, List.getElem_toArray, List.getElem_cons_zero, List.getElem_cons_succ]
              refine wpAnyH_take (i := 22) (oi := _) (v := ?_) rfl (by kernel_rfl) (by kernel_rfl) (by kernel_rfl) (fun _ _ _ h => h) (Or.inl ⟨by rfl, ?_⟩) (by assumption) ?_
              rotate_left
              · intro w hSw
                try dsimp only at hSw
                go_simp
                try with_reducible rfl
              try simp only [Act.put, List.setIfInBounds_toArray, List.set_cons_zero, List.set_cons_succ, List.getElem_toArray, List.getElem_cons_zero, List.getElem_cons_succ]
              refine wpAnyH_done (by kernel_rfl) ?_ _
              go_wp2_with fail
              go_meet
              exact ⟨rfl, Lib.hid (by assumption)⟩
            case rest =>
              obtain ⟨rfl, HBY⟩ := hcut
              go_wp2_with fail
              go_ret
              exact ⟨rfl, HB12.out.trans (HBY.out.mono HB12.out.size)⟩
end Go.Proofs.YtmeneoanmfpecaaDoor
