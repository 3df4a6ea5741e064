/- package lines: Unquote. -/
import Derived.Test.YtmeneoanmfpecaaDoorSign
import Derived.WalkSpells
namespace Go.Proofs.YtmeneoanmfpecaaDoor
set_option linter.unusedVariables false
set_option linter.unusedSimpArgs false
open Go.RowKit

def unqV (x : List UInt8 × Nat × Int) : Value := .tuple #[.string ⟨x.1.toArray⟩, .int .i64 x.2.1, .int .i64 x.2.2]
theorem extract_list (s : ByteArray) (k : Nat) : (s.extract k s.size).data.toList = s.data.toList.drop k := by
  have h : s.data.toList.length = s.size := by simp
  rw [Lib.extract_data]
  rw [List.take_of_length_le (by rw [List.length_drop, h]; omega)]

set_option maxHeartbeats 4000000 in
set_option maxRecDepth 100000 in
theorem unquote_any (s : ByteArray) (hs : s.size ≤ 1000000000000) (w : World) :
    Calls Tryd.prog 38 #[.string s] w fun e w' => e = .returned (unqV (unquoteM s.data.toList)) ∧ Below w.heap.size w w' := by
  by_cases hz : s.size = 0
  · obtain rfl : s = ByteArray.empty := ByteArray.size_eq_zero_iff.1 hz
    clear hz hs
    have HF : Hid (unquoteM ByteArray.empty.data.toList = ([], 0, 5)) := rfl
    go_enter Tryd.func38, Tryd.ntmps38
    go_wp2_with fail
    go_ret3
    rw [HF.out]
    exact ⟨rfl, Below.refl _ _⟩
  have hne : ¬ s = ByteArray.empty := fun h => hz (by rw [h]; rfl)
  have hemp : s.toList.isEmpty = false := by
    rw [ByteArray.toList_eq]
    cases h : s.data.toList with
    | nil => exact absurd (by have : s.data.toList.length = 0 := by rw [h]; rfl
                              simpa using this) hz
    | cons => rfl
  have hpos : 0 < s.size := by omega
  have hpos' : (0 : Int) < s.size := by omega
  have hs' : (s.size : Int) ≤ 1000000000000 := by omega
  have hext : ∀ k, (s.extract k s.size).data.toList = s.data.toList.drop k := extract_list s
  obtain ⟨l, hl⟩ : ∃ l, s.data.toList = l := ⟨_, rfl⟩
  have hlen : l.length = s.size := by rw [← hl]; simp
  have hat : ∀ k (h : k < s.size) (h2 : k < l.length), s[k]'h = l[k]'h2 := fun k h h2 => by subst hl; rfl
  rw [hl] at hext ⊢
  obtain ⟨c0, hc0⟩ : ∃ c, s[0]'hpos = c := ⟨_, rfl⟩
  have hl0 : l = c0 :: l.drop 1 := by
    have h0 : 0 < l.length := by omega
    have := List.drop_eq_getElem_cons h0
    rw [List.drop_zero] at this
    rw [← hc0, hat 0 hpos h0]
    exact this
  have HLE := Lib.hid hlen
  have HAT := Lib.hid hat
  have HEXT := Lib.hid hext
  by_cases h34 : c0 = 34
  · subst h34
    obtain ⟨R, hR⟩ : ∃ R, unquoteM l = R := ⟨_, rfl⟩
    have HST : Hid (unqM (l.drop 1) [] 1 = R) := Lib.hid (by
      rw [← hR]
      conv => rhs; rw [hl0]
      rw [unquoteM, if_pos rfl])
    rw [hR]
    clear hl hlen hat hext hl0 hR hz
    obtain ⟨i0, hi, hz0, hz1, hz2⟩ := info_parts info_u8
    have HI := Lib.hid (And.intro hi (And.intro hz0 (And.intro hz1 hz2)))
    have HSZ : Hid (s.size ≤ 1000000000000) := hs
    clear hi hz0 hz1 hz2 hs
    go_enter Tryd.func38, Tryd.ntmps38
    go_wp2_with fail
    go_loopg [5, 6, 7, 8, 9] (s.size - 1) (fun g t5 t6 t7 t8 t9 wr => ∃ (k m : Nat) (A : Option Addr) (c : Nat) (acc : List UInt8), Hid (g = s.size - k ∧ k ≤ s.size ∧ 1 ≤ k ∧ acc.length ≤ k) ∧ t6 = .int .i64 k ∧ t5 = .slice A m c ∧ Hid (wr.ownsRow w.heap.size 5 1 (.slice A m c) m (byteV acc)) ∧ Hid (unqM (l.drop k) acc k = R) ∧ Hid (Below w.heap.size w wr))
    case atStart => exact ⟨1, 0, none, 0, [], ⟨rfl, hpos, Nat.le_refl _, by simp⟩, rfl, rfl, World.ownsRow_nil _ _ _ _, HST, Below.refl _ _⟩
    case round =>
      obtain ⟨k, m, A, cc, acc, HN, rfl, rfl, HO, HU, HB⟩ := hrel
      have HM : Hid (m = acc.length) := Lib.hid (by
        have h1 := HO.out.1
        rw [byteV_length, Nat.mul_one] at h1
        exact h1.symm)
      have hk1 : (1 : Int) ≤ k := by have := HN.out; omega
      have hk0 : (0 : Int) ≤ k := by omega
      by_cases hlt : k < s.size
      · have hlt' : (k : Int) < s.size := by omega
        have hkl : k < l.length := by rw [HLE.out]; exact hlt
        obtain ⟨c, hc⟩ : ∃ c, s[k]'hlt = c := ⟨_, rfl⟩
        have hdr : l.drop k = c :: l.drop (k + 1) := by
          rw [List.drop_eq_getElem_cons hkl, ← HAT.out k hlt hkl, hc]
        have HU1 := Lib.hid HU.out
        rw [hdr] at HU1
        clear hdr HU hkl
        by_cases h34 : c = 34
        · subst h34
          have HF : Hid (R = (acc, k + 1, 0)) := Lib.hid (by
            have := HU1.out
            rw [unqM, if_pos rfl] at this
            exact this.symm)
          have hcv := own_string (w := wr) (base := w.heap.size) (v := .slice A m cc) (l := acc) (by rw [← HM.out]; exact HO.out)
          have hcc : ((34 : UInt8).toNat : Int) = 34 := rfl
          clear HU1
          go_wp2_with fail
          go_ret3
          rw [HF.out]
          exact ⟨rfl, HB.out⟩
        · have hc34 : ((c.toNat : Int) == 34) = false := by
            simp only [beq_eq_false_iff_ne, ne_eq]
            intro h
            exact h34 (UInt8.toNat_inj.1 (by have h' : c.toNat = 34 := by exact_mod_cast h
                                             exact h'))
          have HP := Lib.hid (plain_any c wr)
          obtain ⟨b, hb⟩ : ∃ b, plainB c = b := ⟨_, rfl⟩
          rw [hb] at HP
          cases b with
          | true =>
            have HU2 : Hid (unqM (l.drop (k + 1)) (acc ++ [c]) (k + 1) = R) := Lib.hid (by
              have := HU1.out
              rwa [unqM, if_neg h34, if_pos hb] at this)
            clear HU1 hb h34
            go_wp2_with fail
            refine HP.out.mono ?_
            rintro e w' ⟨rfl, rfl⟩
            go_wp2_with (at_builtin; refine wpList_append_own _ rfl _ _ 76 rfl w.heap.size 5 i0 (.int .u8 0) 1 1 Tryd.underlying76 HI.out.1 HI.out.2.1 HI.out.2.2.1 HI.out.2.2.2 rfl (by decide) (.slice A m cc) m (byteV acc) rfl (HO.out.alloc _) ⟨wr.heap.size, 0, none⟩ 1 1 (byteV [c]) rfl rfl (cells_new _ _ _) (byteV_one _) (by have := HN.out; have := HSZ.out; have := HM.out; unfold maxLen; omega) (by have := HN.out; have := HSZ.out; have := HM.out; omega) (by have := HB.out.size; simp; omega) ?_; intro v' w2 hown' hgrow hnil; obtain ⟨A4, c4, hv⟩ := own_shape hown'; subst hv; have HO2 : Hid (w2.ownsRow w.heap.size 5 1 (.slice A4 (m + 1) c4) (m + 1) (byteV (acc ++ [c]))) := (by rw [byteV_append]; exact hown'); have HB2 : Hid (Below w.heap.size w w2) := (HB.out.trans (((Below.refl wr.heap.size wr).alloc (Nat.le_refl _) (.cells (byteV [c]).toArray 5)).mono HB.out.size)).grown hgrow (by have := HB.out.size; simp; omega) (fun q e => own_ge' HO.out q e); clear hown' hgrow hnil)
            go_roundg (s.size - (k + 1))
            case rel => exact ⟨k + 1, m + 1, A4, c4, acc ++ [c], ⟨rfl, hlt, by omega, by have := HN.out; simp; omega⟩, by go_num, rfl, HO2, HU2, HB2⟩
            case measure => have := HN.out; omega
          | false =>
            by_cases h92 : c = 92
            · subst h92
              have hc92 : ((92 : UInt8).toNat : Int) = 92 := rfl
              have HSG := Lib.hid (sign_any (s.extract (k + 1) s.size) wr)
              rw [HEXT.out (k + 1)] at HSG
              obtain ⟨er, v, hsv⟩ : ∃ er v, signM (l.drop (k + 1)) = (er, v) := ⟨_, _, rfl⟩
              rw [hsv] at HSG
              have HU3 : Hid ((if er = 0 then unqM ((l.drop (k + 1)).drop 2) (acc ++ [v]) (k + 3) else ([], 0, er)) = R) := Lib.hid (by
                have := HU1.out
                rwa [unqM, if_neg h34, if_neg (by rw [hb]; decide), if_pos rfl, hsv] at this)
              simp only [signV] at HSG
              by_cases her : er = 0
              · subst her
                have hsz3 : k + 3 ≤ s.size := by
                  obtain ⟨r', hr, _⟩ := sign_ok (r := l.drop (k + 1)) (by rw [hsv])
                  have h1 := congrArg List.length hr
                  have h2 := HLE.out
                  simp only [List.length_drop, List.length_cons] at h1
                  omega
                have HU2 : Hid (unqM (l.drop (k + 3)) (acc ++ [v]) (k + 3) = R) := Lib.hid (by
                  have := HU3.out
                  rw [if_pos rfl, List.drop_drop] at this
                  exact this)
                clear HU1 HU3 hb h34 hsv
                go_wp2_with fail
                refine HP.out.mono ?_
                rintro e w' ⟨rfl, rfl⟩
                go_wp2_with fail
                refine HSG.out.mono ?_
                rintro e w' ⟨rfl, rfl⟩
                go_wp2_with (at_builtin; refine wpList_append_own _ rfl _ _ 76 rfl w.heap.size 5 i0 (.int .u8 0) 1 1 Tryd.underlying76 HI.out.1 HI.out.2.1 HI.out.2.2.1 HI.out.2.2.2 rfl (by decide) (.slice A m cc) m (byteV acc) rfl (HO.out.alloc _) ⟨wr.heap.size, 0, none⟩ 1 1 (byteV [v]) rfl rfl (cells_new _ _ _) (byteV_one _) (by have := HN.out; have := HSZ.out; have := HM.out; unfold maxLen; omega) (by have := HN.out; have := HSZ.out; have := HM.out; omega) (by have := HB.out.size; simp; omega) ?_; intro v' w2 hown' hgrow hnil; obtain ⟨A4, c4, hv⟩ := own_shape hown'; subst hv; have HO2 : Hid (w2.ownsRow w.heap.size 5 1 (.slice A4 (m + 1) c4) (m + 1) (byteV (acc ++ [v]))) := (by rw [byteV_append]; exact hown'); have HB2 : Hid (Below w.heap.size w w2) := (HB.out.trans (((Below.refl wr.heap.size wr).alloc (Nat.le_refl _) (.cells (byteV [v]).toArray 5)).mono HB.out.size)).grown hgrow (by have := HB.out.size; simp; omega) (fun q e => own_ge' HO.out q e); clear hown' hgrow hnil)
                go_roundg (s.size - (k + 3))
                case rel => exact ⟨k + 3, m + 1, A4, c4, acc ++ [v], ⟨rfl, hsz3, by omega, by have := HN.out; simp; omega⟩, by go_num, rfl, HO2, HU2, HB2⟩
                case measure => have := HN.out; omega
              · have HF : Hid (R = ([], 0, er)) := Lib.hid (by
                  have := HU3.out
                  rw [if_neg her] at this
                  exact this.symm)
                have her2 : (er != 0) = true := by simpa using her
                clear HU1 HU3 hb h34 hsv her
                go_wp2_with fail
                refine HP.out.mono ?_
                rintro e w' ⟨rfl, rfl⟩
                go_wp2_with fail
                refine HSG.out.mono ?_
                rintro e w' ⟨rfl, rfl⟩
                go_wp2_with fail
                go_ret3
                rw [HF.out]
                exact ⟨rfl, HB.out⟩
            · have hc92 : ((c.toNat : Int) == 92) = false := by
                simp only [beq_eq_false_iff_ne, ne_eq]
                intro h
                exact h92 (UInt8.toNat_inj.1 (by have h' : c.toNat = 92 := by exact_mod_cast h
                                                 exact h'))
              have HF : Hid (R = ([], 0, 7)) := Lib.hid (by
                have := HU1.out
                rw [unqM, if_neg h34, if_neg (by rw [hb]; decide), if_neg h92] at this
                exact this.symm)
              clear HU1 hb h34 h92
              go_wp2_with fail
              refine HP.out.mono ?_
              rintro e w' ⟨rfl, rfl⟩
              go_wp2_with fail
              go_ret3
              rw [HF.out]
              exact ⟨rfl, HB.out⟩
      · have hlt' : ¬ (k : Int) < s.size := by omega
        have HF : Hid (R = ([], 0, 5)) := Lib.hid (by
          have h := HU.out
          have hd : l.drop k = [] := List.drop_eq_nil_of_le (by rw [HLE.out]; omega)
          rw [hd, unqM] at h
          exact h.symm)
        go_wp2_with fail
        go_ret3
        rw [HF.out]
        exact ⟨rfl, HB.out⟩
  · have HF : Hid (unquoteM l = ([], 0, 7)) := Lib.hid (by rw [hl0, unquoteM, if_neg h34])
    have hc34 : ((c0.toNat : Int) != 34) = true := by
      simp only [bne_iff_ne, ne_eq]
      intro h
      exact h34 (UInt8.toNat_inj.1 (by have h' : c0.toNat = 34 := by exact_mod_cast h
                                       exact h'))
    clear hl hlen hat hext hl0 hz hs h34
    go_enter Tryd.func38, Tryd.ntmps38
    go_wp2_with fail
    go_ret3
    rw [HF.out]
    exact ⟨rfl, Below.refl _ _⟩
end Go.Proofs.YtmeneoanmfpecaaDoor
