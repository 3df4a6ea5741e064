/- The document's Unquote. -/
import Derived.Test.YtmeneoanmfpecaaDoorBegins
namespace Go.Proofs.YtmeneoanmfpecaaDoor
set_option linter.unusedVariables false
set_option linter.unusedSimpArgs false
open Go.RowKit

/-- May more make a byte of it, as far as was looked? -/
def shUp (e : Bool) (x : List UInt8) (c : Nat) : Bool := e || (List.range c).any fun j => mayB x (UInt8.ofNat j)
theorem shUp_succ (e : Bool) (x : List UInt8) (c : Nat) : shUp e x (c + 1) = (shUp e x c || mayB x (UInt8.ofNat c)) := by
  simp [shUp, List.range_succ, List.any_append, Bool.or_assoc]
theorem shUp_all (x : List UInt8) : shUp x.isEmpty x 256 = shortB x := rfl
theorem byte_cast (c : Nat) (h : c < 256) : ((UInt8.ofNat c).toNat : Int) = (c : Int) := by
  rw [UInt8.toNat_ofNat']
  omega

/-- The document's look for the byte that stands next. -/
def LookSt (e : Bool) (x acc : List UInt8) (T : ByteArray) (k : Nat) (f : Bool) (c : Nat) (T' : ByteArray) (k' : Nat) (b : Bool) : Prop :=
  (f = false ∧ T = T' ∧ k = k' ∧ shUp e x c = b ∧ ∀ j, j < c → isB x (UInt8.ofNat j) = false) ∨
  (f = true ∧ ∃ j, j < 256 ∧ isB x (UInt8.ofNat j) = true ∧ T' = ⟨(acc ++ [UInt8.ofNat j]).toArray⟩ ∧ k' = k + (oneL (UInt8.ofNat j)).length)

set_option maxHeartbeats 4000000 in
set_option maxRecDepth 100000 in
theorem runquote_any (s : ByteArray) (hs : s.size ≤ 1000000000000) (w : World) :
    Calls Tryd.prog 39 #[.string s] w fun e w' => e = .returned (unqV (unquoteM s.data.toList)) ∧ Below w.heap.size w w' := by
  by_cases hz : s.size = 0
  · obtain rfl : s = ByteArray.empty := ByteArray.size_eq_zero_iff.1 hz
    clear hz hs
    have HF : Hid (unquoteM ByteArray.empty.data.toList = ([], 0, 5)) := rfl
    go_enter Tryd.func39, Tryd.ntmps39
    go_wp2_with fail
    go_ret3
    rw [HF.out]
    exact ⟨rfl, Below.refl _ _⟩
  have hne : ¬ s = ByteArray.empty := fun h => hz (by rw [h]; rfl)
  have hemp : s.toList.isEmpty = false := by
    rw [ByteArray.toList_eq]
    cases h : s.data.toList with
    | nil => exact absurd (by have : s.data.toList.length = 0 := by rw [h]; rfl
                              simpa using this) hz
    | cons => rfl
  have hpos : 0 < s.size := by omega
  have hpos' : (0 : Int) < s.size := by omega
  have hs' : (s.size : Int) ≤ 1000000000000 := by omega
  have hext : ∀ k, (s.extract k s.size).data.toList = s.data.toList.drop k := extract_list s
  obtain ⟨l, hl⟩ : ∃ l, s.data.toList = l := ⟨_, rfl⟩
  have hlen : l.length = s.size := by rw [← hl]; simp
  have hat : ∀ k (h : k < s.size) (h2 : k < l.length), s[k]'h = l[k]'h2 := fun k h h2 => by subst hl; rfl
  rw [hl] at hext ⊢
  obtain ⟨c0, hc0⟩ : ∃ c, s[0]'hpos = c := ⟨_, rfl⟩
  have hl0 : l = c0 :: l.drop 1 := by
    have h0 : 0 < l.length := by omega
    have := List.drop_eq_getElem_cons h0
    rw [List.drop_zero] at this
    rw [← hc0, hat 0 hpos h0]
    exact this
  have HLE := Lib.hid hlen
  have HAT := Lib.hid hat
  have HEXT := Lib.hid hext
  by_cases h34 : c0 = 34
  · subst h34
    obtain ⟨R, hR⟩ : ∃ R, unquoteM l = R := ⟨_, rfl⟩
    have HST : Hid (unqM (l.drop 1) [] 1 = R) := Lib.hid (by
      rw [← hR]
      conv => rhs; rw [hl0]
      rw [unquoteM, if_pos rfl])
    rw [hR]
    have HSZ : Hid (s.size ≤ 1000000000000) := hs
    clear hl hlen hat hext hl0 hR hz hs
    go_enter Tryd.func39, Tryd.ntmps39
    go_wp2_with fail
    go_loopg [5, 6, 7, 8, 9, 10, 11, 12] s.size (fun g t5 t6 t7 t8 t9 t10 t11 t12 wr => ∃ (k : Nat) (acc : List UInt8), Hid (g + k = s.size + 1 ∧ k ≤ s.size ∧ 1 ≤ k ∧ acc.length ≤ k) ∧ t6 = .int .i64 k ∧ t5 = .string ⟨acc.toArray⟩ ∧ Hid (unqM (l.drop k) acc k = R) ∧ Hid (Below w.heap.size w wr))
    case atStart => exact ⟨1, [], ⟨rfl, hpos, Nat.le_refl _, by simp⟩, rfl, rfl, HST, Below.refl _ _⟩
    case round =>
      obtain ⟨k, acc, HN, rfl, rfl, HU, HB⟩ := hrel
      obtain ⟨G, hG⟩ : ∃ G, G = gk := ⟨_, rfl⟩
      have HGG := Lib.hid hG
      rw [← hG] at HN
      clear hG
      have hk1 : (1 : Int) ≤ k := by have := HN.out; omega
      have hk0 : (0 : Int) ≤ k := by omega
      have hks : (k : Int) ≤ s.size := by have := HN.out; omega
      have hkn : k ≤ s.size := HN.out.2.1
      obtain ⟨T, hT⟩ : ∃ T : ByteArray, ⟨acc.toArray⟩ = T := ⟨_, rfl⟩
      have HT := Lib.hid hT
      have hTz : T.size ≤ s.size := by rw [← hT]; show acc.length ≤ s.size; have := HN.out; omega
      rw [hT]
      clear hT
      by_cases hq : ∃ hlt : k < s.size, s[k]'hlt = 34
      · obtain ⟨hlt, hc⟩ := hq
        have hlt' : (k : Int) < s.size := by omega
        have hkl : k < l.length := by rw [HLE.out]; exact hlt
        have HF : Hid (R = (acc, k + 1, 0)) := Lib.hid (by
          have h := HU.out
          rw [List.drop_eq_getElem_cons hkl, ← HAT.out k hlt hkl, hc, unqM, if_pos rfl] at h
          exact h.symm)
        have hcc : ((34 : UInt8).toNat : Int) = 34 := rfl
        clear hkl HU
        go_wp2_with fail
        go_ret3
        rw [HF.out, unqV, HT.out]
        exact ⟨rfl, HB.out⟩
      · have hhd : (l.drop k).head? ≠ some 34 := fun h => by
          apply hq
          have hkl : k < l.length := by
            rcases Nat.lt_or_ge k l.length with h1 | h1
            · exact h1
            · rw [List.drop_eq_nil_of_le h1] at h; cases h
          refine ⟨by rw [← HLE.out]; exact hkl, ?_⟩
          rw [List.drop_eq_getElem_cons hkl] at h
          rw [HAT.out k (by rw [← HLE.out]; exact hkl) hkl]
          exact Option.some.inj h
        have HHD := Lib.hid hhd
        clear hhd
        obtain ⟨x, hx⟩ : ∃ x, l.drop k = x := ⟨_, rfl⟩
        have HX := Lib.hid hx
        obtain ⟨X, hX⟩ : ∃ X : ByteArray, s.extract k s.size = X := ⟨_, rfl⟩
        have hXl : X.data.toList = x := by rw [← hX, HEXT.out, hx]
        have hXz : X.size ≤ 1000000000000 := by
          have h1 : X.data.toList.length = X.size := by simp
          have h2 := congrArg List.length hx
          rw [hXl] at h1
          rw [List.length_drop, HLE.out] at h2
          omega
        have HXL := Lib.hid hXl
        have HXZ := Lib.hid hXz
        have HBEG : Hid (∀ (c : Nat) (hc : c < 256) (o : ByteArray) (w' : World), o = ⟨(oneL (UInt8.ofNat c)).toArray⟩ → Calls Tryd.prog 85 #[.string X, .string o] w' fun e w2 => e = .returned (.tuple #[.bool (isB x (UInt8.ofNat c)), .bool (mayB x (UInt8.ofNat c))]) ∧ Below w'.heap.size w' w2) := fun c hc o w' ho => by
          have h := begins_any X o HXZ.out (by rw [ho]; have := oneL_len (UInt8.ofNat c); show (oneL (UInt8.ofNat c)).length ≤ _; omega) w'
          have e1 : o.data.toList = oneL (UInt8.ofNat c) := by rw [ho]
          have e2 : X.size = x.length := by rw [← HXL.out]; simp
          have e3 : o.size = (oneL (UInt8.ofNat c)).length := by rw [ho]; rfl
          rw [e1, HXL.out, e2, e3] at h
          exact h
        have HONE : Hid (∀ (c : Nat) (hc : c < 256) (w' : World), Calls Tryd.prog 84 #[.int .u8 (c : Int)] w' fun e w2 => e = .returned (.string ⟨(oneL (UInt8.ofNat c)).toArray⟩) ∧ Below w'.heap.size w' w2) := fun c hc w' => by
          have h := one_any (UInt8.ofNat c) w'
          rwa [byte_cast c hc] at h
        rw [hx] at HU
        clear hx hXl hXz
        obtain ⟨e, he⟩ : ∃ e : Bool, decide (k = s.size) = e := ⟨_, rfl⟩
        have HE : Hid (x.isEmpty = e) := Lib.hid (by
          rw [← he, ← HX.out]
          rw [Bool.eq_iff_iff, List.isEmpty_iff, List.drop_eq_nil_iff, HLE.out, decide_eq_true_iff]
          omega)
        have hem : ((k : Int) == (s.size : Int)) = e := by
          rw [← he, Bool.eq_iff_iff, beq_iff_eq, decide_eq_true_iff]
          omega
        have HST0 : Hid (LookSt e x acc T k false 0 T k e) := Lib.hid (.inl ⟨rfl, rfl, rfl, by simp [shUp], fun j hj => by omega⟩)
        have HNONE : Hid ((∀ j, j < 256 → isB x (UInt8.ofNat j) = false) → R = ([], 0, if shUp e x 256 = true then 5 else 7)) := Lib.hid (fun hno => by
          have h := HU.out
          rw [unq_none x acc k (by rw [← HX.out]; exact HHD.out) (fun c => all_plain_or (fun c => isB x c = false) hno c), ← shUp_all, HE.out] at h
          exact h.symm)
        have HTAKE : Hid (∀ j, isB x (UInt8.ofNat j) = true → k + (oneL (UInt8.ofNat j)).length ≤ s.size ∧ unqM (l.drop (k + (oneL (UInt8.ofNat j)).length)) (acc ++ [UInt8.ofNat j]) (k + (oneL (UInt8.ofNat j)).length) = R) := Lib.hid (fun j hj => by
          obtain ⟨r, hr⟩ := (isB_iff _ _).1 hj
          have hxl := HX.out
          have h1 := congrArg List.length hxl
          rw [hr, List.length_drop, HLE.out, List.length_append] at h1
          have hpos1 : 0 < (oneL (UInt8.ofNat j)).length := by unfold oneL; split <;> simp
          refine ⟨by omega, ?_⟩
          have h2 : l.drop (k + (oneL (UInt8.ofNat j)).length) = r := by
            rw [← List.drop_drop, hxl, hr]
            simp
          rw [h2]
          have h := HU.out
          rw [hr, unq_one] at h
          exact h)
        have hcase : (∃ hlt : k < s.size, ∃ c1, s[k]'hlt = c1 ∧ ((c1.toNat : Int) == 34) = false) ∨ ¬ k < s.size := by
          by_cases hlt : k < s.size
          · refine .inl ⟨hlt, _, rfl, ?_⟩
            simp only [beq_eq_false_iff_ne, ne_eq]
            intro h
            exact hq ⟨hlt, UInt8.toNat_inj.1 (by have h' : (s[k]'hlt).toNat = 34 := by exact_mod_cast h
                                                 exact h')⟩
          · exact .inr hlt
        clear hq he HE HHD HU HEXT HAT HLE
        rcases hcase with ⟨hlt, c1, hc1, hc34⟩ | hlt
        · have hlt' : (k : Int) < s.size := by omega
          go_wp2_with fail
          go_loopg [5, 6, 7, 8, 9, 10, 11, 12] 257 (fun g t5 t6 t7 t8 t9 t10 t11 t12 wi => ∃ (c : Nat) (f : Bool) (T' : ByteArray) (k' : Nat) (b : Bool), Hid (g + c = 257 ∧ c ≤ 256) ∧ t9 = .int .i64 c ∧ t7 = .bool f ∧ t5 = .string T' ∧ t6 = .int .i64 k' ∧ t8 = .bool b ∧ Hid (LookSt e x acc T k f c T' k' b) ∧ Hid (Below w.heap.size w wi))
          case atStart => exact ⟨0, false, T, k, e, ⟨rfl, by omega⟩, rfl, rfl, rfl, rfl, rfl, HST0, HB⟩
          case round =>
            clear HST0
            obtain ⟨c, f, T', k', b, HC, rfl, rfl, rfl, rfl, rfl, HS, HBI⟩ := hrel
            cases f with
            | true =>
              obtain ⟨j, hj, hjb, hT', hk'⟩ : ∃ j, j < 256 ∧ isB x (UInt8.ofNat j) = true ∧ T' = ⟨(acc ++ [UInt8.ofNat j]).toArray⟩ ∧ k' = k + (oneL (UInt8.ofNat j)).length := by
                rcases HS.out with ⟨h, _⟩ | ⟨_, h⟩
                · cases h
                · exact h
              have hol := oneL_len (UInt8.ofNat j)
              have hop : 0 < (oneL (UInt8.ofNat j)).length := by unfold oneL; split <;> simp
              obtain ⟨htk, htu⟩ := HTAKE.out j hjb
              rw [← hk'] at htk htu
              have HREL : Hid ((s.size + 1 - k' + k' = s.size + 1 ∧ k' ≤ s.size ∧ 1 ≤ k' ∧ (acc ++ [UInt8.ofNat j]).length ≤ k') ∧ s.size + 1 - k' < G) := Lib.hid (by
                have := HN.out
                refine ⟨⟨by omega, htk, by omega, ?_⟩, by omega⟩
                simp
                omega)
              have HTU := Lib.hid htu
              have HT' := Lib.hid hT'
              clear hT' hk' htk htu hjb hj hol hop HS
              by_cases hc : (c : Int) < 256
              · go_wp2_with fail
                go_roundg (s.size + 1 - k')
                case rel => exact ⟨k', acc ++ [UInt8.ofNat j], HREL.out.1, rfl, by rw [HT'.out], HTU, HBI⟩
                case measure => rw [← HGG.out]; exact HREL.out.2
              · go_wp2_with fail
                go_roundg (s.size + 1 - k')
                case rel => exact ⟨k', acc ++ [UInt8.ofNat j], HREL.out.1, rfl, by rw [HT'.out], HTU, HBI⟩
                case measure => rw [← HGG.out]; exact HREL.out.2
            | false =>
              obtain ⟨rfl, rfl, hsh, hno⟩ : T = T' ∧ k = k' ∧ shUp e x c = b ∧ ∀ j, j < c → isB x (UInt8.ofNat j) = false := by
                rcases HS.out with ⟨_, h⟩ | ⟨h, _⟩
                · exact h
                · cases h
              have HSH := Lib.hid hsh
              have HNO := Lib.hid hno
              clear hsh hno HS
              by_cases hc : c < 256
              · have hc' : (c : Int) < 256 := by omega
                have hc0 : (0 : Int) ≤ c := by omega
                obtain ⟨o, ho⟩ : ∃ o : ByteArray, ⟨(oneL (UInt8.ofNat c)).toArray⟩ = o := ⟨_, rfl⟩
                have H1 := Lib.hid (HONE.out c hc wr)
                rw [ho] at H1
                have hoz : o.size = (oneL (UInt8.ofNat c)).length := by rw [← ho]; rfl
                have hoz3 : o.size ≤ 3 := by rw [hoz]; exact oneL_len _
                have H2 := Lib.hid (fun w' => HBEG.out c hc o w' ho.symm)
                have HOZ := Lib.hid hoz
                obtain ⟨is, his⟩ : ∃ i, isB x (UInt8.ofNat c) = i := ⟨_, rfl⟩
                obtain ⟨may, hmay⟩ : ∃ i, mayB x (UInt8.ofNat c) = i := ⟨_, rfl⟩
                rw [his, hmay] at H2
                have HSS : Hid (shUp e x (c + 1) = (b || may)) := Lib.hid (by rw [shUp_succ, HSH.out, hmay])
                have HIS := Lib.hid his
                clear ho hoz his hmay
                go_wp2_with fail
                refine H1.out.mono ?_
                rintro ex w2 ⟨rfl, hb2⟩
                have HB2 : Hid (Below w.heap.size w w2) := HBI.out.trans (hb2.mono HBI.out.size)
                clear hb2
                go_wp2_with fail
                refine (H2.out w2).mono ?_
                rintro ex w3 ⟨rfl, hb3⟩
                have HB3 : Hid (Below w.heap.size w w3) := HB2.out.trans (hb3.mono HB2.out.size)
                clear hb3
                cases is with
                | true =>
                  obtain ⟨w4, hw4⟩ : ∃ W, w3.alloc (.cells #[.int .u8 (c : Int)] 5) = W := ⟨_, rfl⟩
                  have hcv : (convert 76 9 (.slice (some ⟨w3.heap.size, 0, none⟩) 1 1)).run Tryd.prog w4 = .ok (.string ⟨[UInt8.ofNat c].toArray⟩) w4 := by
                    rw [← hw4, ← byte_cast c hc]
                    exact bytes_string [UInt8.ofNat c] (fun ad hA j u hj => by cases hA; exact cells_new w3 (byteV [UInt8.ofNat c]) 5 j u hj) (fun h => by cases h)
                  have HB4 : Hid (Below w.heap.size w w4) := Lib.hid (by rw [← hw4]; exact HB3.out.alloc HB3.out.size _)
                  obtain ⟨U, hU⟩ : ∃ U : ByteArray, ⟨[UInt8.ofNat c].toArray⟩ = U := ⟨_, rfl⟩
                  rw [hU] at hcv
                  have hUz : U.size = 1 := by rw [← hU]; rfl
                  have hadd : ¬ 9223372036854775807 < T.size + U.size := by omega
                  have HNX : Hid (LookSt e x acc T k true (c + 1) (T ++ U) (k + o.size) (b || may)) := Lib.hid (.inr ⟨rfl, c, hc, HIS.out, by
                    rw [← HT.out, ← hU]; apply ByteArray.ext; simp, by rw [HOZ.out]⟩)
                  have HUZ := Lib.hid hUz
                  have hadd2 : ¬ 9223372036854775807 < T.size + 1 := by omega
                  clear hUz hU
                  cases b with
                  | true =>
                    go_wp2_with fail
                    go_roundg (256 - c)
                    case rel => exact ⟨c + 1, true, T ++ U, k + o.size, true, ⟨by omega, hc⟩, by go_num, rfl, rfl, by go_num, rfl, by simpa using HNX, HB4⟩
                    case measure => have := HC.out; omega
                  | false =>
                    go_wp2_with fail
                    go_roundg (256 - c)
                    case rel => exact ⟨c + 1, true, T ++ U, k + o.size, may, ⟨by omega, hc⟩, by go_num, rfl, rfl, by go_num, rfl, by simpa using HNX, HB4⟩
                    case measure => have := HC.out; omega
                | false =>
                  have HNX : Hid (LookSt e x acc T k false (c + 1) T k (b || may)) := Lib.hid (.inl ⟨rfl, rfl, rfl, HSS.out, fun j hj => by
                    rcases Nat.lt_or_ge j c with h | h
                    · exact HNO.out j h
                    · obtain rfl : j = c := by omega
                      exact HIS.out⟩)
                  cases b with
                  | true =>
                    go_wp2_with fail
                    go_roundg (256 - c)
                    case rel => exact ⟨c + 1, false, T, k, true, ⟨by omega, hc⟩, by go_num, rfl, rfl, rfl, rfl, by simpa using HNX, HB3⟩
                    case measure => have := HC.out; omega
                  | false =>
                    go_wp2_with fail
                    go_roundg (256 - c)
                    case rel => exact ⟨c + 1, false, T, k, may, ⟨by omega, hc⟩, by go_num, rfl, rfl, rfl, rfl, by simpa using HNX, HB3⟩
                    case measure => have := HC.out; omega
              · have hc' : ¬ (c : Int) < 256 := by omega
                have hce : c = 256 := by have := HC.out; omega
                have HF : Hid (R = ([], 0, if b = true then 5 else 7)) := Lib.hid (by
                  have h := HNONE.out (by rw [← hce]; exact HNO.out)
                  rw [← hce, HSH.out] at h
                  exact h)
                clear hce
                cases b with
                | true =>
                  go_wp2_with fail
                  go_ret3
                  rw [HF.out]
                  exact ⟨rfl, HBI.out⟩
                | false =>
                  go_wp2_with fail
                  go_ret3
                  rw [HF.out]
                  exact ⟨rfl, HBI.out⟩
        · have hlt' : ¬ (k : Int) < s.size := by omega
          go_wp2_with fail
          go_loopg [5, 6, 7, 8, 9, 10, 11, 12] 257 (fun g t5 t6 t7 t8 t9 t10 t11 t12 wi => ∃ (c : Nat) (f : Bool) (T' : ByteArray) (k' : Nat) (b : Bool), Hid (g + c = 257 ∧ c ≤ 256) ∧ t9 = .int .i64 c ∧ t7 = .bool f ∧ t5 = .string T' ∧ t6 = .int .i64 k' ∧ t8 = .bool b ∧ Hid (LookSt e x acc T k f c T' k' b) ∧ Hid (Below w.heap.size w wi))
          case atStart => exact ⟨0, false, T, k, e, ⟨rfl, by omega⟩, rfl, rfl, rfl, rfl, rfl, HST0, HB⟩
          case round =>
            clear HST0
            obtain ⟨c, f, T', k', b, HC, rfl, rfl, rfl, rfl, rfl, HS, HBI⟩ := hrel
            cases f with
            | true =>
              obtain ⟨j, hj, hjb, hT', hk'⟩ : ∃ j, j < 256 ∧ isB x (UInt8.ofNat j) = true ∧ T' = ⟨(acc ++ [UInt8.ofNat j]).toArray⟩ ∧ k' = k + (oneL (UInt8.ofNat j)).length := by
                rcases HS.out with ⟨h, _⟩ | ⟨_, h⟩
                · cases h
                · exact h
              have hol := oneL_len (UInt8.ofNat j)
              have hop : 0 < (oneL (UInt8.ofNat j)).length := by unfold oneL; split <;> simp
              obtain ⟨htk, htu⟩ := HTAKE.out j hjb
              rw [← hk'] at htk htu
              have HREL : Hid ((s.size + 1 - k' + k' = s.size + 1 ∧ k' ≤ s.size ∧ 1 ≤ k' ∧ (acc ++ [UInt8.ofNat j]).length ≤ k') ∧ s.size + 1 - k' < G) := Lib.hid (by
                have := HN.out
                refine ⟨⟨by omega, htk, by omega, ?_⟩, by omega⟩
                simp
                omega)
              have HTU := Lib.hid htu
              have HT' := Lib.hid hT'
              clear hT' hk' htk htu hjb hj hol hop HS
              by_cases hc : (c : Int) < 256
              · go_wp2_with fail
                go_roundg (s.size + 1 - k')
                case rel => exact ⟨k', acc ++ [UInt8.ofNat j], HREL.out.1, rfl, by rw [HT'.out], HTU, HBI⟩
                case measure => rw [← HGG.out]; exact HREL.out.2
              · go_wp2_with fail
                go_roundg (s.size + 1 - k')
                case rel => exact ⟨k', acc ++ [UInt8.ofNat j], HREL.out.1, rfl, by rw [HT'.out], HTU, HBI⟩
                case measure => rw [← HGG.out]; exact HREL.out.2
            | false =>
              obtain ⟨rfl, rfl, hsh, hno⟩ : T = T' ∧ k = k' ∧ shUp e x c = b ∧ ∀ j, j < c → isB x (UInt8.ofNat j) = false := by
                rcases HS.out with ⟨_, h⟩ | ⟨h, _⟩
                · exact h
                · cases h
              have HSH := Lib.hid hsh
              have HNO := Lib.hid hno
              clear hsh hno HS
              by_cases hc : c < 256
              · have hc' : (c : Int) < 256 := by omega
                have hc0 : (0 : Int) ≤ c := by omega
                obtain ⟨o, ho⟩ : ∃ o : ByteArray, ⟨(oneL (UInt8.ofNat c)).toArray⟩ = o := ⟨_, rfl⟩
                have H1 := Lib.hid (HONE.out c hc wr)
                rw [ho] at H1
                have hoz : o.size = (oneL (UInt8.ofNat c)).length := by rw [← ho]; rfl
                have hoz3 : o.size ≤ 3 := by rw [hoz]; exact oneL_len _
                have H2 := Lib.hid (fun w' => HBEG.out c hc o w' ho.symm)
                have HOZ := Lib.hid hoz
                obtain ⟨is, his⟩ : ∃ i, isB x (UInt8.ofNat c) = i := ⟨_, rfl⟩
                obtain ⟨may, hmay⟩ : ∃ i, mayB x (UInt8.ofNat c) = i := ⟨_, rfl⟩
                rw [his, hmay] at H2
                have HSS : Hid (shUp e x (c + 1) = (b || may)) := Lib.hid (by rw [shUp_succ, HSH.out, hmay])
                have HIS := Lib.hid his
                clear ho hoz his hmay
                go_wp2_with fail
                refine H1.out.mono ?_
                rintro ex w2 ⟨rfl, hb2⟩
                have HB2 : Hid (Below w.heap.size w w2) := HBI.out.trans (hb2.mono HBI.out.size)
                clear hb2
                go_wp2_with fail
                refine (H2.out w2).mono ?_
                rintro ex w3 ⟨rfl, hb3⟩
                have HB3 : Hid (Below w.heap.size w w3) := HB2.out.trans (hb3.mono HB2.out.size)
                clear hb3
                cases is with
                | true =>
                  obtain ⟨w4, hw4⟩ : ∃ W, w3.alloc (.cells #[.int .u8 (c : Int)] 5) = W := ⟨_, rfl⟩
                  have hcv : (convert 76 9 (.slice (some ⟨w3.heap.size, 0, none⟩) 1 1)).run Tryd.prog w4 = .ok (.string ⟨[UInt8.ofNat c].toArray⟩) w4 := by
                    rw [← hw4, ← byte_cast c hc]
                    exact bytes_string [UInt8.ofNat c] (fun ad hA j u hj => by cases hA; exact cells_new w3 (byteV [UInt8.ofNat c]) 5 j u hj) (fun h => by cases h)
                  have HB4 : Hid (Below w.heap.size w w4) := Lib.hid (by rw [← hw4]; exact HB3.out.alloc HB3.out.size _)
                  obtain ⟨U, hU⟩ : ∃ U : ByteArray, ⟨[UInt8.ofNat c].toArray⟩ = U := ⟨_, rfl⟩
                  rw [hU] at hcv
                  have hUz : U.size = 1 := by rw [← hU]; rfl
                  have hadd : ¬ 9223372036854775807 < T.size + U.size := by omega
                  have HNX : Hid (LookSt e x acc T k true (c + 1) (T ++ U) (k + o.size) (b || may)) := Lib.hid (.inr ⟨rfl, c, hc, HIS.out, by
                    rw [← HT.out, ← hU]; apply ByteArray.ext; simp, by rw [HOZ.out]⟩)
                  have HUZ := Lib.hid hUz
                  have hadd2 : ¬ 9223372036854775807 < T.size + 1 := by omega
                  clear hUz hU
                  cases b with
                  | true =>
                    go_wp2_with fail
                    go_roundg (256 - c)
                    case rel => exact ⟨c + 1, true, T ++ U, k + o.size, true, ⟨by omega, hc⟩, by go_num, rfl, rfl, by go_num, rfl, by simpa using HNX, HB4⟩
                    case measure => have := HC.out; omega
                  | false =>
                    go_wp2_with fail
                    go_roundg (256 - c)
                    case rel => exact ⟨c + 1, true, T ++ U, k + o.size, may, ⟨by omega, hc⟩, by go_num, rfl, rfl, by go_num, rfl, by simpa using HNX, HB4⟩
                    case measure => have := HC.out; omega
                | false =>
                  have HNX : Hid (LookSt e x acc T k false (c + 1) T k (b || may)) := Lib.hid (.inl ⟨rfl, rfl, rfl, HSS.out, fun j hj => by
                    rcases Nat.lt_or_ge j c with h | h
                    · exact HNO.out j h
                    · obtain rfl : j = c := by omega
                      exact HIS.out⟩)
                  cases b with
                  | true =>
                    go_wp2_with fail
                    go_roundg (256 - c)
                    case rel => exact ⟨c + 1, false, T, k, true, ⟨by omega, hc⟩, by go_num, rfl, rfl, rfl, rfl, by simpa using HNX, HB3⟩
                    case measure => have := HC.out; omega
                  | false =>
                    go_wp2_with fail
                    go_roundg (256 - c)
                    case rel => exact ⟨c + 1, false, T, k, may, ⟨by omega, hc⟩, by go_num, rfl, rfl, rfl, rfl, by simpa using HNX, HB3⟩
                    case measure => have := HC.out; omega
              · have hc' : ¬ (c : Int) < 256 := by omega
                have hce : c = 256 := by have := HC.out; omega
                have HF : Hid (R = ([], 0, if b = true then 5 else 7)) := Lib.hid (by
                  have h := HNONE.out (by rw [← hce]; exact HNO.out)
                  rw [← hce, HSH.out] at h
                  exact h)
                clear hce
                cases b with
                | true =>
                  go_wp2_with fail
                  go_ret3
                  rw [HF.out]
                  exact ⟨rfl, HBI.out⟩
                | false =>
                  go_wp2_with fail
                  go_ret3
                  rw [HF.out]
                  exact ⟨rfl, HBI.out⟩
  · have HF : Hid (unquoteM l = ([], 0, 7)) := Lib.hid (by rw [hl0, unquoteM, if_neg h34])
    have hc34 : ((c0.toNat : Int) != 34) = true := by
      simp only [bne_iff_ne, ne_eq]
      intro h
      exact h34 (UInt8.toNat_inj.1 (by have h' : c0.toNat = 34 := by exact_mod_cast h
                                       exact h'))
    clear hl hlen hat hext hl0 hz hs h34
    go_enter Tryd.func39, Tryd.ntmps39
    go_wp2_with fail
    go_ret3
    rw [HF.out]
    exact ⟨rfl, Below.refl _ _⟩
end Go.Proofs.YtmeneoanmfpecaaDoor
