/- The law ShowApart: its walk. -/
import Derived.Deep.QuietTactic
import Derived.BigQuiet
import Derived.Test.YtmeneoanmfpecaaDoorAwake38
import Derived.Test.YtmeneoanmfpecaaDoorItoaInj
import Derived.Test.YtmeneoanmfpecaaDoorShort2
namespace Go.Proofs.YtmeneoanmfpecaaDoor
set_option linter.unusedVariables false
set_option linter.unusedSimpArgs false
open Go.RowKit

theorem text_ne {x y : List UInt8} (h : x ≠ y) : ((⟨x.toArray⟩ : ByteArray).toList == (⟨y.toArray⟩ : ByteArray).toList) = false := by
  rw [ByteArray.toList_eq, ByteArray.toList_eq]
  simpa using h

set_option maxHeartbeats 2000000 in
set_option maxRecDepth 100000 in
theorem same05_any (A B : Option Addr) (c d : Nat) (l m : List (Int × Int)) (hl : l.length ≤ 1000) (hm : m.length ≤ 1000) (w : World) (ha : DotsAt w A l) (hb : DotsAt w B m) :
    Calls Tryd.prog 27 #[.slice A l.length c, .slice B m.length d] w fun e w' => e = .returned (.bool (decide (l = m))) ∧ Below w.heap.size w w' := by
  by_cases hlm : l.length = m.length
  · have HA := Lib.hid ha
    have HB := Lib.hid hb
    have HLM := Lib.hid hlm
    rw [← hlm]
    obtain ⟨n, hn⟩ : ∃ n, l.length = n := ⟨_, rfl⟩
    have HN := Lib.hid hn
    have hn' : (n : Int) ≤ 1000 := by omega
    rw [hn]
    clear ha hb hlm hn hl hm
    go_enter Tryd.func27, Tryd.ntmps27
    go_wp2_with fail
    go_loopg [5] n (fun g t5 wr => ∃ k : Nat, Hid (g = n - k ∧ k ≤ n) ∧ t5 = .int .i64 k ∧ Hid (l.take k = m.take k) ∧ Hid (Below w.heap.size w wr))
    case atStart => exact ⟨0, ⟨rfl, Nat.zero_le _⟩, rfl, rfl, Below.refl _ _⟩
    case round =>
      obtain ⟨k, HK, rfl, HT, HW⟩ := hrel
      by_cases hlt : k < n
      · have hlt' : (k : Int) < n := by omega
        have hkl : k < l.length := by rw [HN.out]; exact hlt
        have hkm : k < m.length := by rw [← HLM.out, HN.out]; exact hlt
        obtain ⟨a, rfl, d0, d1⟩ := (HA.out.below HW.out) k hkl
        obtain ⟨b, rfl, e0, e1⟩ := (HB.out.below HW.out) k hkm
        have hsn : l.take (k + 1) = m.take (k + 1) ↔ l[k] = m[k] := by
          rw [List.take_succ_eq_append_getElem hkl, List.take_succ_eq_append_getElem hkm, HT.out]
          exact ⟨fun h => by simpa using List.append_cancel_left h, fun h => by rw [h]⟩
        obtain ⟨x, hx⟩ : ∃ x, l[k] = x := ⟨_, rfl⟩
        obtain ⟨y, hy⟩ : ∃ y, m[k] = y := ⟨_, rfl⟩
        rw [hx] at d0 d1 hsn
        rw [hy] at e0 e1 hsn
        obtain ⟨p, q⟩ := x
        obtain ⟨p', q'⟩ := y
        simp only at d0 d1 e0 e1
        by_cases hE : ((p, q) : Int × Int) = (p', q')
        · have HT2 := Lib.hid (hsn.2 hE)
          obtain ⟨rfl, rfl⟩ := Prod.mk.inj hE
          have heq : ∀ w', (Op.equalIn 10000 32 (.agg #[.int .i64 p, .int .i64 q]) (.agg #[.int .i64 p, .int .i64 q])).run Tryd.prog w' = .ok true w' := fun w' => by rw [dot_equal]; simp
          clear hE hsn hx hy hkl hkm
          go_wp2_with fail
          go_quiet (fail)
          have HW2 := Lib.hid (below_drawn HW.out (by assumption))
          go_wp2_with fail
          go_roundg (n - (k + 1))
          case rel => exact ⟨k + 1, ⟨rfl, hlt⟩, by go_num, HT2, below_drawn HW.out _⟩
          case measure => have := HK.out; omega
        · have HF : Hid (decide (l = m) = false) := by
            refine Lib.hid (decide_eq_false fun h => hE ?_)
            rw [← hx, ← hy]
            subst h
            rfl
          have hne : (p == p' && q == q') = false := by
            cases h : (p == p' && q == q') with
            | false => rfl
            | true =>
              simp only [Bool.and_eq_true, beq_iff_eq] at h
              exact absurd (Prod.ext h.1 h.2) hE
          have heq : ∀ w', (Op.equalIn 10000 32 (.agg #[.int .i64 p, .int .i64 q]) (.agg #[.int .i64 p', .int .i64 q'])).run Tryd.prog w' = .ok false w' := fun w' => by rw [dot_equal, hne]
          clear hE hsn hx hy hkl hkm hne
          go_wp2_with fail
          go_quiet (fail)
          go_wp2_with fail
          go_ret
          rw [HF.out]
          exact ⟨rfl, below_drawn HW.out _⟩
      · have hlt' : ¬ (k : Int) < n := by omega
        have HF : Hid (decide (l = m) = true) := by
          refine Lib.hid (decide_eq_true ?_)
          have h1 := HT.out
          have h2 := HK.out
          have h3 := HN.out
          have h4 := HLM.out
          rwa [List.take_of_length_le (by omega), List.take_of_length_le (by omega)] at h1
        go_wp2_with fail
        go_ret
        rw [HF.out]
        exact ⟨rfl, HW.out⟩
  · have hne : ((l.length : Int) == (m.length : Int)) = false := by simp; omega
    have hne2 : ((l.length : Int) != (m.length : Int)) = true := by simp; omega
    have hF : decide (l = m) = false := decide_eq_false fun h => hlm (by rw [h])
    rw [hF]
    clear hF ha hb hlm
    go_enter Tryd.func27, Tryd.ntmps27
    go_wp2_with fail
    go_ret
    exact ⟨rfl, Below.refl _ _⟩

set_option maxHeartbeats 8000000 in
set_option maxRecDepth 100000 in
theorem showApart_any (A B : Option Addr) (c d : Nat) (l m : List (Int × Int)) (hl : DotsOk l) (hm : DotsOk m) (w : World) (hd : Door w) (ha : DotsAt w A l) (hb : DotsAt w B m) :
    Calls Tryd.prog 7 #[.slice A l.length c, .slice B m.length d] w fun e w' => e = .returned (.bool true) ∧ Below w.heap.size w w' := by
  have HA : Hid (∀ w', Below w.heap.size w w' → Calls Tryd.prog 22 #[] w' fun e w'' => e = .returned (.bool true) ∧ Below w.heap.size w w'') := fun w' hb => (awake38_any w' (hd.below hb)).mono fun e w'' h => ⟨h.1, hb.trans (h.2.mono hb.size)⟩
  by_cases h1 : 80 < (l.length : Int)
  · clear ha hb hl hm hd
    go_enter Tryd.func7, Tryd.ntmps7
    go_wp2_with fail
    refine (HA.out w (Below.refl _ _)).mono ?_
    rintro e w' ⟨rfl, hb⟩
    have HB := Lib.hid hb
    clear hb
    go_wp2_with fail
    go_ret
    exact ⟨rfl, HB.out⟩
  by_cases h2 : 80 < (m.length : Int)
  · clear ha hb hl hm hd
    go_enter Tryd.func7, Tryd.ntmps7
    go_wp2_with fail
    refine (HA.out w (Below.refl _ _)).mono ?_
    rintro e w' ⟨rfl, hb⟩
    have HB := Lib.hid hb
    clear hb
    go_wp2_with fail
    go_ret
    exact ⟨rfl, HB.out⟩
  have hl1 : l.length ≤ 1000 := by omega
  have hm1 : m.length ≤ 1000 := by omega
  obtain ⟨V1, hV1⟩ : ∃ V : ByteArray, ⟨(vecT l).toArray⟩ = V := ⟨_, rfl⟩
  obtain ⟨V2, hV2⟩ : ∃ V : ByteArray, ⟨(vecT m).toArray⟩ = V := ⟨_, rfl⟩
  have HV1 : Hid (∀ w', Below w.heap.size w w' → Calls Tryd.prog 26 #[.slice A l.length c] w' fun e w'' => e = .returned (.string V1) ∧ Below w.heap.size w w'') := fun w' hb => by rw [← hV1]; exact (vec_any A c l hl hl1 w' (hd.below hb) (ha.below hb)).mono fun e w'' h => ⟨h.1, hb.trans (h.2.mono hb.size)⟩
  have HV2 : Hid (∀ w', Below w.heap.size w w' → Calls Tryd.prog 26 #[.slice B m.length d] w' fun e w'' => e = .returned (.string V2) ∧ Below w.heap.size w w'') := fun w' hb' => by rw [← hV2]; exact (vec_any B d m hm hm1 w' (hd.below hb') (hb.below hb')).mono fun e w'' h => ⟨h.1, hb'.trans (h.2.mono hb'.size)⟩
  have HS : Hid (∀ w', Below w.heap.size w w' → Calls Tryd.prog 27 #[.slice A l.length c, .slice B m.length d] w' fun e w'' => e = .returned (.bool (decide (l = m))) ∧ Below w.heap.size w w'') := fun w' hb' => (same05_any A B c d l m hl1 hm1 w' (ha.below hb') (hb.below hb')).mono fun e w'' h => ⟨h.1, hb'.trans (h.2.mono hb'.size)⟩
  have HVE : Hid (l = m → V1 = V2) := fun h => by rw [← hV1, ← hV2, h]
  have HVN : Hid (l ≠ m → (V1.toList == V2.toList) = false) := fun h => by
    rw [← hV1, ← hV2]
    exact text_ne fun h' => h (vecT_inj h')
  have HDOT : Hid (∀ x : Int × Int, x ∈ l ∨ x ∈ m → ∀ w0 w', Below w.heap.size w w0 → Below w0.heap.size w0 w' → Calls Tryd.prog 25 #[.agg #[.int .i64 x.1, .int .i64 x.2]] w' fun e w'' => e = .returned (.string ⟨(dotT x.1 x.2).toArray⟩) ∧ Below w0.heap.size w0 w'') := fun x hx w0 w' h0 hb' => by
    have hx' : In64 x.1 ∧ In64 x.2 := by rcases hx with h | h; exact hl x h; exact hm x h
    exact (dot_any x.1 x.2 hx'.1 hx'.2 w' ((hd.below h0).below hb')).mono fun e w'' h => ⟨h.1, hb'.trans (h.2.mono hb'.size)⟩
  have HAT := Lib.hid ha
  have HBT := Lib.hid hb
  obtain ⟨n, hn⟩ : ∃ n, l.length = n := ⟨_, rfl⟩
  obtain ⟨r, hr⟩ : ∃ n, m.length = n := ⟨_, rfl⟩
  have HN := Lib.hid hn
  have HR := Lib.hid hr
  rw [hn] at HV1 HS h1 ⊢
  rw [hr] at HV2 HS h2 ⊢
  have hn' : (n : Int) ≤ 80 := by omega
  have hr' : (r : Int) ≤ 80 := by omega
  clear ha hb hl hm hd hl1 hm1 hV1 hV2 hn hr
  go_enter Tryd.func7, Tryd.ntmps7
  go_wp2_with fail
  go_loopg [5] n (fun g t5 wr => ∃ k : Nat, Hid (g = n - k ∧ k ≤ n) ∧ t5 = .int .i64 k ∧ Hid (Below w.heap.size w wr))
  case atStart => exact ⟨0, ⟨rfl, Nat.zero_le _⟩, rfl, Below.refl _ _⟩
  case round =>
    obtain ⟨k, HK, rfl, HB⟩ := hrel
    by_cases hgo : k < n ∧ k < r
    · obtain ⟨hlt, hrt⟩ := hgo
      have hlt' : (k : Int) < n := by omega
      have hrt' : (k : Int) < r := by omega
      have hkl : k < l.length := by rw [HN.out]; exact hlt
      have hkm : k < m.length := by rw [HR.out]; exact hrt
      obtain ⟨a, rfl, d0, d1⟩ := (HAT.out.below HB.out) k hkl
      obtain ⟨b, rfl, e0, e1⟩ := (HBT.out.below HB.out) k hkm
      have HD1 := Lib.hid (fun w' => HDOT.out l[k] (.inl (List.getElem_mem hkl)) wr w' HB.out)
      have HD2 := Lib.hid (fun w' => HDOT.out m[k] (.inr (List.getElem_mem hkm)) wr w' HB.out)
      obtain ⟨x, hx⟩ : ∃ x, l[k] = x := ⟨_, rfl⟩
      obtain ⟨y, hy⟩ : ∃ y, m[k] = y := ⟨_, rfl⟩
      rw [hx] at d0 d1 HD1
      rw [hy] at e0 e1 HD2
      obtain ⟨p, q⟩ := x
      obtain ⟨p', q'⟩ := y
      simp only at d0 d1 e0 e1 HD1 HD2
      have HCELL : Hid (∀ w', Below wr.heap.size wr w' → Below wr.heap.size wr w' ∧ w'.cell? (a.add (k * 2)) = some (.int .i64 p) ∧ w'.cell? ⟨(a.add (k * 2)).block, (a.add (k * 2)).off + 1, none⟩ = some (.int .i64 q) ∧ w'.cell? (b.add (k * 2)) = some (.int .i64 p') ∧ w'.cell? ⟨(b.add (k * 2)).block, (b.add (k * 2)).off + 1, none⟩ = some (.int .i64 q')) := fun w' hb => ⟨hb, cell_below hb d0, cell_below hb d1, cell_below hb e0, cell_below hb e1⟩
      by_cases hE : ((p, q) : Int × Int) = (p', q')
      · obtain ⟨rfl, rfl⟩ := Prod.mk.inj hE
        have heq : ∀ w', (Op.equalIn 10000 32 (.agg #[.int .i64 p, .int .i64 q]) (.agg #[.int .i64 p, .int .i64 q])).run Tryd.prog w' = .ok true w' := fun w' => by rw [dot_equal]; simp
        obtain ⟨o, ho⟩ : ∃ o : ByteArray, ⟨(dotT p q).toArray⟩ = o := ⟨_, rfl⟩
        rw [ho] at HD1 HD2
        clear hE ho hx hy hkl hkm
        go_wp2_with fail
        go_cut [47] (fun t wc => t = .bool false ∧ Hid (Below wr.heap.size wr wc))
        case first =>
          go_region_held3 (fun w' => Below wr.heap.size wr w' ∧ w'.cell? (a.add (k * 2)) = some (.int .i64 p) ∧ w'.cell? ⟨(a.add (k * 2)).block, (a.add (k * 2)).off + 1, none⟩ = some (.int .i64 q) ∧ w'.cell? (b.add (k * 2)) = some (.int .i64 p) ∧ w'.cell? ⟨(b.add (k * 2)).block, (b.add (k * 2)).off + 1, none⟩ = some (.int .i64 q))
            (first | exact HCELL.out _ (by assumption) | exact HCELL.out _ (Below.refl _ _) | exact HCELL.out _ (Below.refl _ _).drew | (go_split_ands; exact HCELL.out _ (by assumption)))
            (first | (go_at_call 25; (with_reducible refine (HD1.out _ ?_).mono ?_); (first | assumption | exact (Below.refl _ _).drew | exact Below.refl _ _ | (go_split_ands; assumption)); rintro e w' ⟨rfl, hq⟩))
          all_goals
            go_wp2_with fail
            go_meet
            exact ⟨rfl, Lib.hid (by assumption)⟩
        case rest =>
          obtain ⟨rfl, HBY⟩ := hcut
          go_wp2_with fail
          go_roundg (n - (k + 1))
          case rel => exact ⟨k + 1, ⟨rfl, hlt⟩, by go_num, HB.out.trans (HBY.out.mono HB.out.size)⟩
          case measure => have := HK.out; omega
      · have hne : (p == p' && q == q') = false := by
          cases h : (p == p' && q == q') with
          | false => rfl
          | true =>
            simp only [Bool.and_eq_true, beq_iff_eq] at h
            exact absurd (Prod.ext h.1 h.2) hE
        have heq : ∀ w', (Op.equalIn 10000 32 (.agg #[.int .i64 p, .int .i64 q]) (.agg #[.int .i64 p', .int .i64 q'])).run Tryd.prog w' = .ok false w' := fun w' => by rw [dot_equal, hne]
        have hns := text_ne (x := dotT p q) (y := dotT p' q') (fun h => hE (by obtain ⟨rfl, rfl⟩ := dotT_inj h; rfl))
        obtain ⟨o, ho⟩ : ∃ o : ByteArray, ⟨(dotT p q).toArray⟩ = o := ⟨_, rfl⟩
        obtain ⟨o', ho'⟩ : ∃ o : ByteArray, ⟨(dotT p' q').toArray⟩ = o := ⟨_, rfl⟩
        rw [ho] at HD1 hns
        rw [ho'] at HD2 hns
        clear hE ho ho' hx hy hkl hkm hne
        go_wp2_with fail
        go_cut [47] (fun t wc => t = .bool false ∧ Hid (Below wr.heap.size wr wc))
        case first =>
          go_region_held3 (fun w' => Below wr.heap.size wr w' ∧ w'.cell? (a.add (k * 2)) = some (.int .i64 p) ∧ w'.cell? ⟨(a.add (k * 2)).block, (a.add (k * 2)).off + 1, none⟩ = some (.int .i64 q) ∧ w'.cell? (b.add (k * 2)) = some (.int .i64 p') ∧ w'.cell? ⟨(b.add (k * 2)).block, (b.add (k * 2)).off + 1, none⟩ = some (.int .i64 q'))
            (first | exact HCELL.out _ (by assumption) | exact HCELL.out _ (Below.refl _ _) | exact HCELL.out _ (Below.refl _ _).drew | (go_split_ands; exact HCELL.out _ (by assumption)))
            (first | (go_at_call 25; (with_reducible refine (HD1.out _ ?_).mono ?_); (first | assumption | exact (Below.refl _ _).drew | exact Below.refl _ _ | (go_split_ands; assumption)); rintro e w' ⟨rfl, hq⟩) | (go_at_call 25; (with_reducible refine (HD2.out _ ?_).mono ?_); (first | assumption | exact (Below.refl _ _).drew | exact Below.refl _ _ | (go_split_ands; assumption)); rintro e w' ⟨rfl, hq⟩))
          all_goals
            go_wp2_with fail
            go_meet
            exact ⟨rfl, Lib.hid (by assumption)⟩
        case rest =>
          obtain ⟨rfl, HBY⟩ := hcut
          go_wp2_with fail
          go_roundg (n - (k + 1))
          case rel => exact ⟨k + 1, ⟨rfl, hlt⟩, by go_num, HB.out.trans (HBY.out.mono HB.out.size)⟩
          case measure => have := HK.out; omega
    · clear HDOT HAT HBT
      by_cases hE : l = m
      · have HV2' := HV2
        rw [← HVE.out hE] at HV2'
        have HS' := HS
        rw [decide_eq_true hE] at HS'
        clear hE HV2 HS HVE HVN
        by_cases hlt : k < n
        · have hlt' : (k : Int) < n := by omega
          have hrt' : ¬ (k : Int) < r := by omega
          clear hgo
          go_wp2_with fail
          refine (HV1.out _ HB.out).mono ?_
          rintro e w2 ⟨rfl, hb2⟩
          have HB2 := Lib.hid hb2
          clear hb2
          go_wp2_with fail
          refine (HV2'.out _ HB2.out).mono ?_
          rintro e w3 ⟨rfl, hb3⟩
          have HB3 := Lib.hid hb3
          clear hb3
          go_wp2_with fail
          refine (HS'.out _ HB3.out).mono ?_
          rintro e w4 ⟨rfl, hb4⟩
          have HB4 := Lib.hid hb4
          clear hb4
          go_wp2_with fail
          refine (HA.out _ HB4.out).mono ?_
          rintro e w5 ⟨rfl, hb5⟩
          have HB5 := Lib.hid hb5
          clear hb5
          go_wp2_with fail
          go_ret
          exact ⟨rfl, HB5.out⟩
        · have hlt' : ¬ (k : Int) < n := by omega
          clear hgo
          go_wp2_with fail
          refine (HV1.out _ HB.out).mono ?_
          rintro e w2 ⟨rfl, hb2⟩
          have HB2 := Lib.hid hb2
          clear hb2
          go_wp2_with fail
          refine (HV2'.out _ HB2.out).mono ?_
          rintro e w3 ⟨rfl, hb3⟩
          have HB3 := Lib.hid hb3
          clear hb3
          go_wp2_with fail
          refine (HS'.out _ HB3.out).mono ?_
          rintro e w4 ⟨rfl, hb4⟩
          have HB4 := Lib.hid hb4
          clear hb4
          go_wp2_with fail
          refine (HA.out _ HB4.out).mono ?_
          rintro e w5 ⟨rfl, hb5⟩
          have HB5 := Lib.hid hb5
          clear hb5
          go_wp2_with fail
          go_ret
          exact ⟨rfl, HB5.out⟩
      · have HS' := HS
        rw [decide_eq_false hE] at HS'
        have hvn := HVN.out hE
        have HV2' := HV2
        clear hE HVE HVN HS HV2
        by_cases hlt : k < n
        · have hlt' : (k : Int) < n := by omega
          have hrt' : ¬ (k : Int) < r := by omega
          clear hgo
          go_wp2_with fail
          refine (HV1.out _ HB.out).mono ?_
          rintro e w2 ⟨rfl, hb2⟩
          have HB2 := Lib.hid hb2
          clear hb2
          go_wp2_with fail
          refine (HV2'.out _ HB2.out).mono ?_
          rintro e w3 ⟨rfl, hb3⟩
          have HB3 := Lib.hid hb3
          clear hb3
          go_wp2_with fail
          refine (HS'.out _ HB3.out).mono ?_
          rintro e w4 ⟨rfl, hb4⟩
          have HB4 := Lib.hid hb4
          clear hb4
          go_wp2_with fail
          refine (HA.out _ HB4.out).mono ?_
          rintro e w5 ⟨rfl, hb5⟩
          have HB5 := Lib.hid hb5
          clear hb5
          go_wp2_with fail
          go_ret
          exact ⟨rfl, HB5.out⟩
        · have hlt' : ¬ (k : Int) < n := by omega
          clear hgo
          go_wp2_with fail
          refine (HV1.out _ HB.out).mono ?_
          rintro e w2 ⟨rfl, hb2⟩
          have HB2 := Lib.hid hb2
          clear hb2
          go_wp2_with fail
          refine (HV2'.out _ HB2.out).mono ?_
          rintro e w3 ⟨rfl, hb3⟩
          have HB3 := Lib.hid hb3
          clear hb3
          go_wp2_with fail
          refine (HS'.out _ HB3.out).mono ?_
          rintro e w4 ⟨rfl, hb4⟩
          have HB4 := Lib.hid hb4
          clear hb4
          go_wp2_with fail
          refine (HA.out _ HB4.out).mono ?_
          rintro e w5 ⟨rfl, hb5⟩
          have HB5 := Lib.hid hb5
          clear hb5
          go_wp2_with fail
          go_ret
          exact ⟨rfl, HB5.out⟩
end Go.Proofs.YtmeneoanmfpecaaDoor
