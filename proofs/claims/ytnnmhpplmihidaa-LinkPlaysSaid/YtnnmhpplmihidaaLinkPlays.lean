/- LinkPlays' walk. -/
import Derived.Deep.LoopGhost
import Derived.Deep.DeepCutAuto
import Derived.Deep.RegionHeld3
import Derived.Test.YtnnmhpplmihidaaPlaysMid
import Derived.Test.YtnnmhpplmihidaaActs
namespace Go.Proofs.Ytnnmhpplmihidaa
set_option linter.unusedVariables false
set_option linter.unusedSimpArgs false
open PLinkPlays Go.RowKit Go.Proofs.YtnnmhpplmihidaaW.PrintWords

set_option maxHeartbeats 8000000 in
set_option maxRecDepth 100000 in
theorem linkPlays_walk (p : Int) (A : Option Addr) (c : Nat) (l : List ActV) (w : World) (h : ActsAt w A l) (hok : ActsOk l) (hl : l.length ≤ maxLen) (hI : ActsI l) :
    Calls Try.prog 9 #[.int .i64 p, .slice A l.length c] w fun e w' => e = .returned (.bool true) ∧ Below w.heap.size w w' := by
  have HG := Lib.hid (great26 A c l w h hok hl)
  have HA := Lib.hid h
  have HO := Lib.hid hok
  have HII := Lib.hid hI
  clear h hok hl hI
  go_enter Try.func9, Try.ntmps9
  go_wp2_with fail
  refine HG.out.mono ?_
  rintro e w' ⟨⟨b, rfl, hb⟩, rfl⟩
  have HB := Lib.hid hb
  clear hb HG
  cases b with
  | true =>
    go_wp2_with fail
    refine (awake26 w).mono ?_
    rintro e w' ⟨rfl, hb⟩
    go_wp2_with fail
    go_ret
    exact ⟨rfl, hb⟩
  | false =>
    have H80 : Hid (l.length ≤ 80) := (HB.out rfl).1
    clear HB
    by_cases hp : 1 ≤ p ∧ p ≤ 64
    · have hp1 : ¬ p < 1 := by omega
      have hp2 : ¬ (64 : Int) < p := by omega
      obtain ⟨P, rfl⟩ := Int.eq_ofNat_of_zero_le (show 0 ≤ p by omega)
      have HP := Lib.hid hp
      have HNEW := Lib.hid (new_net (P : Int) hp w)
      clear hp
      go_wp2_with fail
      refine HNEW.out.mono ?_
      rintro e w1 ⟨rfl, hnet, hb⟩
      have HN1 := Lib.hid hnet
      have HB1 := Lib.hid hb
      clear hnet hb HNEW
      go_wp2_with fail
      obtain ⟨W2, hW2⟩ : ∃ W, w1.alloc (.cells #[.int .i64 P, .slice none 0 0] 60) = W := ⟨_, rfl⟩
      have hst := plays_start HN1.out HB1.out
      rw [hW2] at hst
      obtain ⟨Bm, hBm⟩ : ∃ b, w1.heap.size = b := ⟨_, rfl⟩
      rw [hBm] at hst
      have HST := Lib.hid hst
      clear hst
      go_wp2_with fail
      rw [hW2, hBm]
      clear hW2 hBm HN1 HB1
      go_loopg [7] l.length (fun n t7 wr => ∃ (k : Nat) (L : Int × Int → List Fr) (M : List RF) (vm : Value), Hid (n = l.length - k ∧ k ≤ l.length) ∧ t7 = .int .i64 k ∧ Hid (PlaysAt w wr (w.heap.size + 1) w.heap.size Bm P L M vm) ∧ Hid (Ok P M L k))
      case atStart => exact ⟨0, _, _, _, ⟨rfl, Nat.zero_le _⟩, rfl, HST, ok_start _⟩
      case round =>
        obtain ⟨k, L, M, vm, HK, rfl, HAT, HOK⟩ := hrel
        by_cases hlt : k < l.length
        · obtain ⟨a, rfl, hact⟩ := (HA.out.below HAT.out.below rfl) k hlt
          have hxok := HO.out l[k] (List.getElem_mem hlt)
          have hxi := HII.out l[k] (List.getElem_mem hlt)
          obtain ⟨⟨K, F, T, I, At, Mk, S⟩, hx⟩ : ∃ x, l[k] = x := ⟨_, rfl⟩
          rw [hx] at hact hxok hxi
          obtain ⟨h0, h1, h2, h3, h4, h5, h6⟩ := hact
          simp only at h0 h1 h2 h3 h4 h5 h6
          have HXK := Lib.hid hxok
          have HXI := Lib.hid hxi
          have hlt' : (k : Int) < l.length := by omega
          have hk80 : (k : Int) < 1000 := by have := H80.out; omega
          clear hx hxok hxi
          obtain ⟨W1, hW1⟩ : ∃ W, wr.alloc (.cells #[.int .i64 K, .int .i64 F, .int .i64 T, .int .i64 I, .int .i64 At, .int .u32 Mk, .string S] 50) = W := ⟨_, rfl⟩
          have hbl1 : W1.heap[wr.heap.size]? = some (.cells #[.int .i64 K, .int .i64 F, .int .i64 T, .int .i64 I, .int .i64 At, .int .u32 Mk, .string S] 50 (0, 0)) := by rw [← hW1]; exact World.alloc_heap_new _ _
          have hb1 : Below wr.heap.size wr W1 := by rw [← hW1]; exact (Below.refl _ _).alloc (Nat.le_refl _) _
          have hs1 : W1.heap.size = wr.heap.size + 1 := by rw [← hW1]; simp
          have a0 : W1.cell? ⟨wr.heap.size, 0, none⟩ = some (.int .i64 K) := by simp [World.cell?, hbl1]
          have a1 : W1.cell? ⟨wr.heap.size, 1, none⟩ = some (.int .i64 F) := by simp [World.cell?, hbl1]
          have a2 : W1.cell? ⟨wr.heap.size, 2, none⟩ = some (.int .i64 T) := by simp [World.cell?, hbl1]
          have a3 : W1.cell? ⟨wr.heap.size, 3, none⟩ = some (.int .i64 I) := by simp [World.cell?, hbl1]
          have a4 : W1.cell? ⟨wr.heap.size, 4, none⟩ = some (.int .i64 At) := by simp [World.cell?, hbl1]
          have a5 : W1.cell? ⟨wr.heap.size, 5, none⟩ = some (.int .u32 Mk) := by simp [World.cell?, hbl1]
          have a6 : W1.cell? ⟨wr.heap.size, 6, none⟩ = some (.string S) := by simp [World.cell?, hbl1]
          obtain ⟨O, m, hnet, hafter⟩ := HAT.out.after hb1
          have HNET := Lib.hid hnet
          have HAF := Lib.hid hafter
          have HBL1 := Lib.hid hbl1
          have HS := Lib.hid hs1
          have hBX : Bm < wr.heap.size := HAT.out.lt
          have HBX := Lib.hid hBX
          have HVX : Hid (vm.ownBlock ≠ some wr.heap.size) := fun e => Nat.lt_irrefl _ (own_lt' HAT.out.row _ e)
          clear hnet hafter hbl1 hb1 hs1 hBX
          have HNX : Hid (∀ (L1 : Int × Int → List Fr) (w3 : World), NetStep w.heap.size W1 O (w.heap.size + 1) P L1 w.heap.size w3 → PlaysAt w w3 (w.heap.size + 1) w.heap.size Bm P L1 M vm ∧ w3.heap[wr.heap.size]? = some (.cells #[.int .i64 K, .int .i64 F, .int .i64 T, .int .i64 I, .int .i64 At, .int .u32 Mk, .string S] 50 (0, 0))) := fun L1 w3 h => by
            obtain ⟨h1, h2⟩ := HAF.out L1 w3 h
            exact ⟨h1, (h2 _ (Nat.le_refl _) (by have := HS.out; omega)).trans HBL1.out⟩
          have HFIN : Hid (∀ (L1 : Int × Int → List Fr) (w3 w4 : World) (v' : Value), PlaysAt w w3 (w.heap.size + 1) w.heap.size Bm P L1 M vm → w3.heap[wr.heap.size]? = some (.cells #[.int .i64 K, .int .i64 F, .int .i64 T, .int .i64 I, .int .i64 At, .int .u32 Mk, .string S] 50 (0, 0)) → RefOk w w3 P vm L1 (k + 1) v' w4 →
              ∃ (L1 : Int × Int → List Fr) (M' : List RF) (v2 : Value), Hid (MidAt w ((w4.setCell ⟨Bm, 0, none⟩ (.int .i64 P)).setCell ⟨Bm, 1, none⟩ v') (w.heap.size + 1) w.heap.size Bm wr.heap.size P L1 M' v2 F T) ∧ Hid (Ok P M' L1 (k + 1))) := fun L1 w3 w4 v' h hx hr => by
            obtain ⟨h1, M', h2, h3, h4⟩ := hr.at_ h
            have hX := (h4 wr.heap.size (Array.getElem?_eq_some_iff.1 hx).1 (Nat.ne_of_gt HBX.out) HVX.out).trans hx
            exact ⟨L1, M', v', ⟨h2, by simp [World.cell?, hX], by simp [World.cell?, hX]⟩, h3⟩
          go_upto_block 2 with fail
          go_cut [9, 10, 11, 12, 13, 14, 15, 16] (fun t9 t10 t11 t12 t13 t14 t15 t16 wx => ∃ (E J : Int) (s : ByteArray) (b : Bool), t9 = .int .i64 E ∧ t10 = .int .i64 E ∧ t11 = .string s ∧ t12 = .string s ∧ t13 = .bool b ∧ t14 = .bool b ∧ t15 = .int .i64 J ∧ t16 = .int .i64 J ∧
            ∃ (L1 : Int × Int → List Fr) (M' : List RF) (v2 : Value), Hid (MidAt w wx (w.heap.size + 1) w.heap.size Bm wr.heap.size P L1 M' v2 F T) ∧ Hid (Ok P M' L1 (k + 1)))
          case first =>
            by_cases hK0 : K = 0
            · subst hK0
              as_aux_lemma =>
                have HSE := Lib.hid (send_net HNET.out F T S (Nat.le_trans HXK.out.2 (by unfold maxLen; omega)))
                obtain ⟨L1, hL1⟩ : ∃ e, (sendM P L F T S).2 = e := ⟨_, rfl⟩
                obtain ⟨e1, he1⟩ : ∃ e, (sendM P L F T S).1 = e := ⟨_, rfl⟩
                rw [he1, hL1] at HSE
                have HRF : Hid (∀ w3, PlaysAt w w3 (w.heap.size + 1) w.heap.size Bm P L1 M vm → Calls Try.prog 33 #[.agg #[.int .i64 P, vm], .int .i64 F, .int .i64 T, .string S] w3 fun e w4 => ∃ v', e = .returned (.tuple #[.agg #[.int .i64 P, v'], .int .i64 e1]) ∧ RefOk w w3 P vm L1 (k + 1) v' w4) := fun w3 h => by
                  have := send_ref h.below h.row HOK.out (by have := H80.out; omega) F T S
                  rw [he1, hL1] at this
                  exact this
                clear hL1 he1
                go_wp2_with fail
                refine HSE.out.mono ?_
                rintro e w3 ⟨rfl, hstep⟩
                obtain ⟨hat, hX⟩ := HNX.out _ _ hstep
                have hbx := hat.box
                have d1 : w3.cell? ⟨wr.heap.size, 1, none⟩ = some (.int .i64 F) := by simp [World.cell?, hX]
                have d2 : w3.cell? ⟨wr.heap.size, 2, none⟩ = some (.int .i64 T) := by simp [World.cell?, hX]
                have d3 : w3.cell? ⟨wr.heap.size, 3, none⟩ = some (.int .i64 I) := by simp [World.cell?, hX]
                have d4 : w3.cell? ⟨wr.heap.size, 4, none⟩ = some (.int .i64 At) := by simp [World.cell?, hX]
                have d5 : w3.cell? ⟨wr.heap.size, 5, none⟩ = some (.int .u32 Mk) := by simp [World.cell?, hX]
                have d6 : w3.cell? ⟨wr.heap.size, 6, none⟩ = some (.string S) := by simp [World.cell?, hX]
                have n0 : w3.cell? ⟨Bm, 0, none⟩ = some (.int .i64 P) := by simp [World.cell?, hbx]
                have n1 : w3.cell? ⟨Bm, 1, none⟩ = some vm := by simp [World.cell?, hbx]
                have HAT3 := Lib.hid hat
                have HX3 := Lib.hid hX
                clear hstep hat hX hbx HSE
                go_wp2_with fail
                refine (HRF.out _ HAT3.out).mono ?_
                rintro e w4 ⟨v', rfl, hrf⟩
                obtain ⟨A5, n5, c5, rfl⟩ : ∃ A n c, v' = .slice A n c := by
                  obtain ⟨M5, h5, _⟩ := hrf
                  obtain ⟨A5, c5, h6⟩ := own_shape h5
                  exact ⟨_, _, _, h6⟩
                have hbox := (hrf.at_ HAT3.out).1
                have y0 : w4.cell? ⟨Bm, 0, none⟩ = some (.int .i64 P) := by simp [World.cell?, hbox]
                have y1 : w4.cell? ⟨Bm, 1, none⟩ = some vm := by simp [World.cell?, hbox]
                have z0 : w4.frozen? ⟨Bm, 0, none⟩ = false := by simp [World.frozen?, hbox]
                have z1 : w4.frozen? ⟨Bm, 1, none⟩ = false := by simp [World.frozen?, hbox]
                have HR4 := Lib.hid hrf
                clear hbox hrf
                go_wp2_with fail
                go_meet
                exact ⟨e1, 0, ⟨#[]⟩, false, rfl, rfl, rfl, rfl, rfl, rfl, rfl, rfl, HFIN.out _ _ _ _ HAT3.out HX3.out HR4.out⟩
            · by_cases hK1 : K = 1
              · subst hK1
                clear hK0
                as_aux_lemma =>
                  have HSE := Lib.hid (take_net HNET.out F T I)
                  obtain ⟨L1, hL1⟩ : ∃ e, (takeM P L F T I).2 = e := ⟨_, rfl⟩
                  obtain ⟨⟨st, sm, e1⟩, hr1⟩ : ∃ r, (takeM P L F T I).1 = r := ⟨_, rfl⟩
                  rw [hr1, hL1] at HSE
                  unfold takeRet at HSE
                  simp only at HSE
                  have HRF : Hid (∀ w3, PlaysAt w w3 (w.heap.size + 1) w.heap.size Bm P L1 M vm → Calls Try.prog 34 #[.agg #[.int .i64 P, vm], .int .i64 F, .int .i64 T, .int .i64 I] w3 fun e w4 => ∃ v', e = .returned (.tuple #[.agg #[.int .i64 P, v'], .string st, .bool sm, .int .i64 e1]) ∧ RefOk w w3 P vm L1 (k + 1) v' w4) := fun w3 h => by
                    have := take_ref h.below h.row HOK.out (by have := H80.out; omega) F T I HXI.out
                    rw [hr1, hL1] at this
                    exact this
                  clear hL1 hr1
                  go_wp2_with fail
                  refine HSE.out.mono ?_
                  rintro e w3 ⟨rfl, hstep⟩
                  obtain ⟨hat, hX⟩ := HNX.out _ _ hstep
                  have hbx := hat.box
                  have d1 : w3.cell? ⟨wr.heap.size, 1, none⟩ = some (.int .i64 F) := by simp [World.cell?, hX]
                  have d2 : w3.cell? ⟨wr.heap.size, 2, none⟩ = some (.int .i64 T) := by simp [World.cell?, hX]
                  have d3 : w3.cell? ⟨wr.heap.size, 3, none⟩ = some (.int .i64 I) := by simp [World.cell?, hX]
                  have d4 : w3.cell? ⟨wr.heap.size, 4, none⟩ = some (.int .i64 At) := by simp [World.cell?, hX]
                  have d5 : w3.cell? ⟨wr.heap.size, 5, none⟩ = some (.int .u32 Mk) := by simp [World.cell?, hX]
                  have d6 : w3.cell? ⟨wr.heap.size, 6, none⟩ = some (.string S) := by simp [World.cell?, hX]
                  have n0 : w3.cell? ⟨Bm, 0, none⟩ = some (.int .i64 P) := by simp [World.cell?, hbx]
                  have n1 : w3.cell? ⟨Bm, 1, none⟩ = some vm := by simp [World.cell?, hbx]
                  have HAT3 := Lib.hid hat
                  have HX3 := Lib.hid hX
                  clear hstep hat hX hbx HSE
                  go_wp2_with fail
                  refine (HRF.out _ HAT3.out).mono ?_
                  rintro e w4 ⟨v', rfl, hrf⟩
                  obtain ⟨A5, n5, c5, rfl⟩ : ∃ A n c, v' = .slice A n c := by
                    obtain ⟨M5, h5, _⟩ := hrf
                    obtain ⟨A5, c5, h6⟩ := own_shape h5
                    exact ⟨_, _, _, h6⟩
                  have hbox := (hrf.at_ HAT3.out).1
                  have y0 : w4.cell? ⟨Bm, 0, none⟩ = some (.int .i64 P) := by simp [World.cell?, hbox]
                  have y1 : w4.cell? ⟨Bm, 1, none⟩ = some vm := by simp [World.cell?, hbox]
                  have z0 : w4.frozen? ⟨Bm, 0, none⟩ = false := by simp [World.frozen?, hbox]
                  have z1 : w4.frozen? ⟨Bm, 1, none⟩ = false := by simp [World.frozen?, hbox]
                  have HR4 := Lib.hid hrf
                  clear hbox hrf
                  go_wp2_with fail
                  go_meet
                  exact ⟨e1, 0, st, sm, rfl, rfl, rfl, rfl, rfl, rfl, rfl, rfl, HFIN.out _ _ _ _ HAT3.out HX3.out HR4.out⟩
              · by_cases hK2 : K = 2
                · subst hK2
                  clear hK0 hK1
                  as_aux_lemma =>
                    have HSE := Lib.hid (twice_net HNET.out F T I)
                    obtain ⟨L1, hL1⟩ : ∃ e, (twiceM P L F T I).2 = e := ⟨_, rfl⟩
                    obtain ⟨e1, he1⟩ : ∃ e, (twiceM P L F T I).1 = e := ⟨_, rfl⟩
                    rw [he1, hL1] at HSE
                    have HRF : Hid (∀ w3, PlaysAt w w3 (w.heap.size + 1) w.heap.size Bm P L1 M vm → Calls Try.prog 35 #[.agg #[.int .i64 P, vm], .int .i64 F, .int .i64 T, .int .i64 I] w3 fun e w4 => ∃ v', e = .returned (.tuple #[.agg #[.int .i64 P, v'], .int .i64 e1]) ∧ RefOk w w3 P vm L1 (k + 1) v' w4) := fun w3 h => by
                      have := twice_ok h.below h.row HOK.out (by have := H80.out; omega) F T I HXI.out
                      rw [he1, hL1] at this
                      exact this
                    clear hL1 he1
                    go_wp2_with fail
                    refine HSE.out.mono ?_
                    rintro e w3 ⟨rfl, hstep⟩
                    obtain ⟨hat, hX⟩ := HNX.out _ _ hstep
                    have hbx := hat.box
                    have d1 : w3.cell? ⟨wr.heap.size, 1, none⟩ = some (.int .i64 F) := by simp [World.cell?, hX]
                    have d2 : w3.cell? ⟨wr.heap.size, 2, none⟩ = some (.int .i64 T) := by simp [World.cell?, hX]
                    have d3 : w3.cell? ⟨wr.heap.size, 3, none⟩ = some (.int .i64 I) := by simp [World.cell?, hX]
                    have d4 : w3.cell? ⟨wr.heap.size, 4, none⟩ = some (.int .i64 At) := by simp [World.cell?, hX]
                    have d5 : w3.cell? ⟨wr.heap.size, 5, none⟩ = some (.int .u32 Mk) := by simp [World.cell?, hX]
                    have d6 : w3.cell? ⟨wr.heap.size, 6, none⟩ = some (.string S) := by simp [World.cell?, hX]
                    have n0 : w3.cell? ⟨Bm, 0, none⟩ = some (.int .i64 P) := by simp [World.cell?, hbx]
                    have n1 : w3.cell? ⟨Bm, 1, none⟩ = some vm := by simp [World.cell?, hbx]
                    have HAT3 := Lib.hid hat
                    have HX3 := Lib.hid hX
                    clear hstep hat hX hbx HSE
                    go_wp2_with fail
                    refine (HRF.out _ HAT3.out).mono ?_
                    rintro e w4 ⟨v', rfl, hrf⟩
                    obtain ⟨A5, n5, c5, rfl⟩ : ∃ A n c, v' = .slice A n c := by
                      obtain ⟨M5, h5, _⟩ := hrf
                      obtain ⟨A5, c5, h6⟩ := own_shape h5
                      exact ⟨_, _, _, h6⟩
                    have hbox := (hrf.at_ HAT3.out).1
                    have y0 : w4.cell? ⟨Bm, 0, none⟩ = some (.int .i64 P) := by simp [World.cell?, hbox]
                    have y1 : w4.cell? ⟨Bm, 1, none⟩ = some vm := by simp [World.cell?, hbox]
                    have z0 : w4.frozen? ⟨Bm, 0, none⟩ = false := by simp [World.frozen?, hbox]
                    have z1 : w4.frozen? ⟨Bm, 1, none⟩ = false := by simp [World.frozen?, hbox]
                    have HR4 := Lib.hid hrf
                    clear hbox hrf
                    go_wp2_with fail
                    go_meet
                    exact ⟨e1, 0, ⟨#[]⟩, false, rfl, rfl, rfl, rfl, rfl, rfl, rfl, rfl, HFIN.out _ _ _ _ HAT3.out HX3.out HR4.out⟩
                · by_cases hK3 : K = 3
                  · subst hK3
                    clear hK0 hK1 hK2
                    as_aux_lemma =>
                      have HSE := Lib.hid (bend_net HNET.out F T I At Mk HXK.out.1 HOK.out.bound)
                      obtain ⟨L1, hL1⟩ : ∃ e, (bendM P L F T I At Mk).2 = e := ⟨_, rfl⟩
                      obtain ⟨e1, he1⟩ : ∃ e, (bendM P L F T I At Mk).1 = e := ⟨_, rfl⟩
                      rw [he1, hL1] at HSE
                      have HRF : Hid (∀ w3, PlaysAt w w3 (w.heap.size + 1) w.heap.size Bm P L1 M vm → Calls Try.prog 36 #[.agg #[.int .i64 P, vm], .int .i64 F, .int .i64 T, .int .i64 I, .int .i64 At, .int .u32 Mk] w3 fun e w4 => ∃ v', e = .returned (.tuple #[.agg #[.int .i64 P, v'], .int .i64 e1]) ∧ RefOk w w3 P vm L1 (k + 1) v' w4) := fun w3 h => by
                        have := bend_ok h.below h.row HOK.out (by have := H80.out; omega) F T I HXI.out At Mk HXK.out.1
                        rw [he1, hL1] at this
                        exact this
                      clear hL1 he1
                      go_wp2_with fail
                      refine HSE.out.mono ?_
                      rintro e w3 ⟨rfl, hstep⟩
                      obtain ⟨hat, hX⟩ := HNX.out _ _ hstep
                      have hbx := hat.box
                      have d1 : w3.cell? ⟨wr.heap.size, 1, none⟩ = some (.int .i64 F) := by simp [World.cell?, hX]
                      have d2 : w3.cell? ⟨wr.heap.size, 2, none⟩ = some (.int .i64 T) := by simp [World.cell?, hX]
                      have d3 : w3.cell? ⟨wr.heap.size, 3, none⟩ = some (.int .i64 I) := by simp [World.cell?, hX]
                      have d4 : w3.cell? ⟨wr.heap.size, 4, none⟩ = some (.int .i64 At) := by simp [World.cell?, hX]
                      have d5 : w3.cell? ⟨wr.heap.size, 5, none⟩ = some (.int .u32 Mk) := by simp [World.cell?, hX]
                      have d6 : w3.cell? ⟨wr.heap.size, 6, none⟩ = some (.string S) := by simp [World.cell?, hX]
                      have n0 : w3.cell? ⟨Bm, 0, none⟩ = some (.int .i64 P) := by simp [World.cell?, hbx]
                      have n1 : w3.cell? ⟨Bm, 1, none⟩ = some vm := by simp [World.cell?, hbx]
                      have HAT3 := Lib.hid hat
                      have HX3 := Lib.hid hX
                      clear hstep hat hX hbx HSE
                      go_wp2_with fail
                      refine (HRF.out _ HAT3.out).mono ?_
                      rintro e w4 ⟨v', rfl, hrf⟩
                      obtain ⟨A5, n5, c5, rfl⟩ : ∃ A n c, v' = .slice A n c := by
                        obtain ⟨M5, h5, _⟩ := hrf
                        obtain ⟨A5, c5, h6⟩ := own_shape h5
                        exact ⟨_, _, _, h6⟩
                      have hbox := (hrf.at_ HAT3.out).1
                      have y0 : w4.cell? ⟨Bm, 0, none⟩ = some (.int .i64 P) := by simp [World.cell?, hbox]
                      have y1 : w4.cell? ⟨Bm, 1, none⟩ = some vm := by simp [World.cell?, hbox]
                      have z0 : w4.frozen? ⟨Bm, 0, none⟩ = false := by simp [World.frozen?, hbox]
                      have z1 : w4.frozen? ⟨Bm, 1, none⟩ = false := by simp [World.frozen?, hbox]
                      have HR4 := Lib.hid hrf
                      clear hbox hrf
                      go_wp2_with fail
                      go_meet
                      exact ⟨e1, 0, ⟨#[]⟩, false, rfl, rfl, rfl, rfl, rfl, rfl, rfl, rfl, HFIN.out _ _ _ _ HAT3.out HX3.out HR4.out⟩
                  · as_aux_lemma =>
                      have hse := clear_net HNET.out T HOK.out.hT
                      rw [Int.toNat_natCast] at hse
                      have HSE := Lib.hid hse
                      clear hse
                      obtain ⟨L1, hL1⟩ : ∃ e, clearL L T P = e := ⟨_, rfl⟩
                      obtain ⟨e1, he1⟩ : ∃ e, clearK P L T P = e := ⟨_, rfl⟩
                      rw [he1, hL1] at HSE
                      have HRF : Hid (∀ w3, PlaysAt w w3 (w.heap.size + 1) w.heap.size Bm P L1 M vm → Calls Try.prog 38 #[.agg #[.int .i64 P, vm], .int .i64 T] w3 fun e w4 => ∃ v', e = .returned (.tuple #[.agg #[.int .i64 P, v'], .int .i64 (e1 : Int)]) ∧ RefOk w w3 P vm L1 (k + 1) v' w4) := fun w3 h => by
                        have := clear_ref h.below h.row HOK.out (by have := H80.out; omega) T
                        rw [he1, hL1] at this
                        exact this
                      clear hL1 he1
                      go_wp2_with fail
                      refine HSE.out.mono ?_
                      rintro e w3 ⟨rfl, hstep⟩
                      obtain ⟨hat, hX⟩ := HNX.out _ _ hstep
                      have hbx := hat.box
                      have d1 : w3.cell? ⟨wr.heap.size, 1, none⟩ = some (.int .i64 F) := by simp [World.cell?, hX]
                      have d2 : w3.cell? ⟨wr.heap.size, 2, none⟩ = some (.int .i64 T) := by simp [World.cell?, hX]
                      have d3 : w3.cell? ⟨wr.heap.size, 3, none⟩ = some (.int .i64 I) := by simp [World.cell?, hX]
                      have d4 : w3.cell? ⟨wr.heap.size, 4, none⟩ = some (.int .i64 At) := by simp [World.cell?, hX]
                      have d5 : w3.cell? ⟨wr.heap.size, 5, none⟩ = some (.int .u32 Mk) := by simp [World.cell?, hX]
                      have d6 : w3.cell? ⟨wr.heap.size, 6, none⟩ = some (.string S) := by simp [World.cell?, hX]
                      have n0 : w3.cell? ⟨Bm, 0, none⟩ = some (.int .i64 P) := by simp [World.cell?, hbx]
                      have n1 : w3.cell? ⟨Bm, 1, none⟩ = some vm := by simp [World.cell?, hbx]
                      have HAT3 := Lib.hid hat
                      have HX3 := Lib.hid hX
                      clear hstep hat hX hbx HSE
                      go_wp2_with fail
                      refine (HRF.out _ HAT3.out).mono ?_
                      rintro e w4 ⟨v', rfl, hrf⟩
                      obtain ⟨A5, n5, c5, rfl⟩ : ∃ A n c, v' = .slice A n c := by
                        obtain ⟨M5, h5, _⟩ := hrf
                        obtain ⟨A5, c5, h6⟩ := own_shape h5
                        exact ⟨_, _, _, h6⟩
                      have hbox := (hrf.at_ HAT3.out).1
                      have y0 : w4.cell? ⟨Bm, 0, none⟩ = some (.int .i64 P) := by simp [World.cell?, hbox]
                      have y1 : w4.cell? ⟨Bm, 1, none⟩ = some vm := by simp [World.cell?, hbox]
                      have z0 : w4.frozen? ⟨Bm, 0, none⟩ = false := by simp [World.frozen?, hbox]
                      have z1 : w4.frozen? ⟨Bm, 1, none⟩ = false := by simp [World.frozen?, hbox]
                      have HR4 := Lib.hid hrf
                      clear hbox hrf
                      go_wp2_with fail
                      go_meet
                      exact ⟨0, e1, ⟨#[]⟩, false, rfl, rfl, rfl, rfl, rfl, rfl, rfl, rfl, HFIN.out _ _ _ _ HAT3.out HX3.out HR4.out⟩
          case rest =>
            obtain ⟨E, J, s, b, rfl, rfl, rfl, rfl, rfl, rfl, rfl, rfl, L1, M', v2, HMID, HOK2⟩ := hcut
            obtain ⟨wx, rfl⟩ : ∃ wx : World, wx = wc := ⟨_, rfl⟩
            have HALL : Hid (∀ w', Below wx.heap.size wx w' → _) := fun w' hb => mid_all HMID.out.at_ HOK2.out (by have := H80.out; omega) hb
            have HLEN : Hid (∀ w', Below wx.heap.size wx w' → _) := fun w' hb => mid_len HMID.out.at_ F T hb
            have HRLEN : Hid (∀ w', Below wx.heap.size wx w' → _) := fun w' hb => mid_rlen HMID.out.at_ HOK2.out (by have := H80.out; omega) F T hb
            have HCELL : Hid (∀ w', Below wx.heap.size wx w' → Below wx.heap.size wx w' ∧ w'.cell? ⟨Bm, 0, none⟩ = some (.int .i64 P) ∧ w'.cell? ⟨Bm, 1, none⟩ = some v2 ∧ w'.cell? ⟨wr.heap.size, 1, none⟩ = some (.int .i64 F) ∧ w'.cell? ⟨wr.heap.size, 2, none⟩ = some (.int .i64 T)) := fun w' hb => ⟨hb, HMID.out.cells hb⟩
            obtain ⟨A2, c2, hv2⟩ := own_shape HMID.out.at_.row
            subst hv2
            clear h0 h1 h2 h3 h4 h5 h6 a0 a1 a2 a3 a4 a5 a6
            obtain ⟨hs0, m0, m1, m2, m3⟩ := HCELL.out wx (Below.refl _ _)
            have hne1 : (E != E) = false := by simp
            go_upto_region 31 with fail
            go_cut [204] (fun t wy => t = .bool false ∧ Hid (Below wx.heap.size wx wy))
            case first =>
              as_aux_lemma =>
                go_region_held3 (fun w' => Below wx.heap.size wx w' ∧ w'.cell? ⟨Bm, 0, none⟩ = some (.int .i64 P) ∧ w'.cell? ⟨Bm, 1, none⟩ = some (.slice A2 M'.length c2) ∧ w'.cell? ⟨wr.heap.size, 1, none⟩ = some (.int .i64 F) ∧ w'.cell? ⟨wr.heap.size, 2, none⟩ = some (.int .i64 T))
                  (first | exact HCELL.out _ (by assumption) | exact HCELL.out _ (Below.refl _ _).drew | (go_split_ands; exact HCELL.out _ (by assumption)))
                  (first | (go_at_call 39; refine (HALL.out _ ?_).mono ?_; (first | assumption | exact (Below.refl _ _).drew | (go_split_ands; assumption)); rintro e w' ⟨rfl, hq⟩) | (go_at_call 40; refine (HLEN.out _ ?_).mono ?_; (first | assumption | exact (Below.refl _ _).drew | (go_split_ands; assumption)); rintro e w' ⟨rfl, hq⟩) | (go_at_call 41; refine (HRLEN.out _ ?_).mono ?_; (first | assumption | exact (Below.refl _ _).drew | (go_split_ands; assumption)); rintro e w' ⟨rfl, hq⟩))
                all_goals
                  go_wp2_with fail
                  go_meet
                  exact ⟨rfl, Lib.hid (by assumption)⟩
            case rest =>
              obtain ⟨rfl, HBY⟩ := hcut
              obtain ⟨wy, rfl⟩ : ∃ wy : World, wy = wc := ⟨_, rfl⟩
              have HNEXT := Lib.hid (mid_next HMID.out.at_ HOK2.out HBY.out)
              clear hs0 m0 m1 m2 m3
              go_wp2_with fail
              refine HNEXT.out.mono ?_
              rintro e wz ⟨⟨r1, r2, r3⟩, rfl, hr, hbz⟩
              have HR := Lib.hid hr
              have HBZ := Lib.hid hbz
              have HRNEXT := Lib.hid (mid_rnext (by have := HP.out; omega) HMID.out.at_ HOK2.out (by have := H80.out; omega) hbz)
              obtain ⟨hs0, m0, m1, m2, m3⟩ := HCELL.out wz hbz
              clear hs0 hr hbz m2 m3
              go_wp2_with fail
              refine HRNEXT.out.mono ?_
              rintro e wv ⟨⟨q1, q2, q3⟩, rfl, hq, hbv⟩
              have hqr := NextIs.one HR.out hq
              cases hqr
              have HBV := Lib.hid hbv
              clear hq hbv
              go_wp2_with fail
              go_roundg (l.length - (k + 1))
              case rel => exact ⟨k + 1, L1, M', .slice A2 M'.length c2, ⟨rfl, hlt⟩, by go_num, HMID.out.at_.mono HBV.out, HOK2⟩
              case measure => have := HK.out; omega
        · have hlt' : ¬ (k : Int) < l.length := by omega
          go_wp2_with fail
          refine (awake26 _).mono ?_
          rintro e w' ⟨rfl, hb⟩
          go_wp2_with fail
          go_ret
          exact ⟨rfl, HAT.out.below.trans (hb.mono HAT.out.below.size)⟩
    · have HNEW := Lib.hid (new_none p hp w)
      clear H80
      go_wp2_with fail
      refine HNEW.out.mono ?_
      rintro e w1 ⟨rfl, rfl⟩
      by_cases hp1 : p < 1
      · go_wp2_with fail
        refine (awake26 w).mono ?_
        rintro e w' ⟨rfl, hb⟩
        go_wp2_with fail
        go_ret
        exact ⟨rfl, hb⟩
      · have hp2 : (64 : Int) < p := by omega
        clear hp
        go_wp2_with fail
        refine (awake26 w).mono ?_
        rintro e w' ⟨rfl, hb⟩
        go_wp2_with fail
        go_ret
        exact ⟨rfl, hb⟩

set_option maxRecDepth 100000 in
theorem linkPlays_any {H : Type} {ts : List TypeId} {ds : List (DataW H)} (w : World) (q : Int) (v : Value) (wq : Lit.wf (.int .i64 q) = true) (base : Nat) (p : List MemPlace) (d : DataW H) (enc : TypeId × Value → H) (hv : Value.okWide Try.prog w .any base 43 v)
    (h : DataW.Trod enc Try.prog w 0 (fun _ => true) true 43 v d p) (hsz : (DataW.weightsEach Try.prog ts ds).all (· ≤ reachBytes) = true)
    (ht : ts[1]? = some 43 := by rfl) (hd : ds[1]? = some d := by rfl) :
    Calls Try.prog 9 #[.int .i64 q, v] w fun e w' => e = .returned (.bool true) ∧ Below w.heap.size w w' := by
  obtain ⟨A, c, l, rfl, h1, h2, h3, h4⟩ := open_acts hv h (fun n hn => by
    have := List.all_eq_true.1 hsz _ (DataW.weights_mem_each ht hd n hn)
    simpa using this)
  exact linkPlays_walk q A c l w h1 h2 h3 h4
end Go.Proofs.Ytnnmhpplmihidaa
