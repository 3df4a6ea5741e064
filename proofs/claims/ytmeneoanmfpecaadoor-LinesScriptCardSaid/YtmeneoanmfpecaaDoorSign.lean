/- package lines: what a text says behind a backslash. -/
import Derived.Deep.LoopGhost
import Derived.StillTailTactics
import Derived.Test.YtmeneoanmfpecaaDoorShelf
import Derived.Test.YtmeneoanmfpecaaDoorUnq
namespace Go.Proofs.YtmeneoanmfpecaaDoor
set_option linter.unusedVariables false
set_option linter.unusedSimpArgs false
open Go.RowKit

theorem nib_or (q k : Nat) (hq : q < 16) (hk : k < 16) : bits .or .i64 ((q : Int) * 16) (k : Int) = ((16 * q + k : Nat) : Int) := by
  have : ∀ q k : Fin 16, bits .or .i64 ((q.val : Int) * 16) (k.val : Int) = ((16 * q.val + k.val : Nat) : Int) := by decide +kernel
  exact this ⟨q, hq⟩ ⟨k, hk⟩
theorem nib_byte (q k : Nat) (hq : q < 16) (hk : k < 16) : ((UInt8.ofNat (16 * q + k)).toNat : Int) = ((16 * q + k : Nat) : Int) := by
  rw [UInt8.toNat_ofNat']
  omega
theorem plainB_int (c : UInt8) (x : Int) (h : (c.toNat : Int) = x) : plainB c = decide (32 ≤ x ∧ x ≤ 126 ∧ x ≠ 34 ∧ x ≠ 92) := by
  rw [← h]
  rfl
def opensUpto (q k : Nat) : Bool := (List.range k).all fun j => plainB (UInt8.ofNat (16 * q + j))
theorem opensUpto_succ (q k : Nat) : opensUpto q (k + 1) = (opensUpto q k && plainB (UInt8.ofNat (16 * q + k))) := by
  simp [opensUpto, List.range_succ, List.all_append]
theorem opens_upto (q : Nat) : opensB q = !opensUpto q 16 := by
  unfold opensB opensUpto
  rw [List.not_all_eq_any_not]

set_option maxHeartbeats 1000000 in
set_option maxRecDepth 100000 in
theorem opens_any (q : Nat) (hq : q < 16) (w : World) : Calls Tryd.prog 118 #[.int .i64 q] w fun e w' => e = .returned (.bool (opensB q)) ∧ w = w' := by
  have hq1 : (q : Int) < 16 := by omega
  have hq0 : (0 : Int) ≤ q := by omega
  go_enter Tryd.func118, Tryd.ntmps118
  go_wp2_with fail
  go_loopg [3, 4] 16 (fun g t3 t4 wr => ∃ k : Nat, Hid (g = 16 - k ∧ k ≤ 16) ∧ t4 = .int .i64 k ∧ Hid (opensUpto q k = true) ∧ w = wr)
  case atStart => exact ⟨0, ⟨rfl, Nat.zero_le _⟩, rfl, rfl, rfl⟩
  case round =>
    obtain ⟨k, HK, rfl, HU, rfl⟩ := hrel
    by_cases hlt : k < 16
    · have hlt' : (k : Int) < 16 := by omega
      have hor := nib_or q k hq hlt
      have hby := nib_byte q k hq hlt
      have hx0 : (0 : Int) ≤ ((16 * q + k : Nat) : Int) := by omega
      have hx1 : ((16 * q + k : Nat) : Int) < 256 := by omega
      obtain ⟨x, hx⟩ : ∃ x, 16 * q + k = x := ⟨_, rfl⟩
      rw [hx] at hor hby hx0 hx1
      have hsu := opensUpto_succ q k
      rw [hx] at hsu
      have HP := Lib.hid (fun b (hb : plainB (UInt8.ofNat x) = b) => plain_walk (x : Int) b (by rw [← hb]; exact plainB_int _ _ hby) w)
      have HSU := Lib.hid hsu
      have HBY := Lib.hid hby
      clear hby hsu hx
      cases hpb : plainB (UInt8.ofNat x) with
      | true =>
        have HP1 := Lib.hid (HP.out true hpb)
        have HU2 : Hid (opensUpto q (k + 1) = true) := Lib.hid (by rw [HSU.out, HU.out, hpb]; rfl)
        clear hpb HP HSU
        go_wp2_with fail
        refine HP1.out.mono ?_
        rintro e w' ⟨rfl, rfl⟩
        go_wp2_with fail
        go_roundg (16 - (k + 1))
        case rel => exact ⟨k + 1, ⟨rfl, hlt⟩, by go_num, HU2, rfl⟩
        case measure => have := HK.out; omega
      | false =>
        have HP1 := Lib.hid (HP.out false hpb)
        have HF : Hid (opensB q = true) := by
          refine Lib.hid ((opens_iff q).2 ⟨k, hlt, ?_⟩)
          have h := HSU.out
          rw [hpb] at h
          cases hq' : plainB (UInt8.ofNat (16 * q + k)) with
          | false => rfl
          | true =>
            have h2 := opensUpto_succ q k
            rw [h, hq', HU.out] at h2
            cases h2
        clear hpb HP HSU
        go_wp2_with fail
        refine HP1.out.mono ?_
        rintro e w' ⟨rfl, rfl⟩
        go_wp2_with fail
        go_ret
        rw [HF.out]
        exact ⟨rfl, rfl⟩
    · have hlt' : ¬ (k : Int) < 16 := by omega
      have HF : Hid (opensB q = false) := by
        obtain rfl : k = 16 := by have := HK.out; omega
        exact Lib.hid (by rw [opens_upto, HU.out]; rfl)
      go_wp2_with fail
      go_ret
      rw [HF.out]
      exact ⟨rfl, rfl⟩

/-- Where a sign stands among the sixteen. -/
def ixM (a : UInt8) : Int := match hexV a with | some q => (q : Int) | none => -1
theorem hexIndex_any (a : UInt8) (w : World) : Calls Tryd.prog 119 #[.string hexS, .int .u8 (a.toNat : Int)] w fun e w' => e = .returned (.int .i64 (ixM a)) ∧ w = w' := by
  refine (Tryd.strings_IndexByte hexS (a.toNat : Int) w).mono ?_
  rintro e w' ⟨rfl, rfl⟩
  have ha : ((a.toNat : Int)).toNat.toUInt8 = a := by simp
  have hx : Lib.indexByte hexS.data.toList a = ixM a := by
    have h := hexV_index a
    have e : hexS.data.toList = hexes := rfl
    rw [e, ixM]
    cases hv : hexV a with
    | none => rw [hv] at h; exact h
    | some q => rw [hv] at h; exact h
  rw [ha, hx]
  exact ⟨rfl, rfl⟩

def StM (l : List UInt8) (k v : Nat) : Prop := (k = 0 ∧ v = 0) ∨ (k = 1 ∧ ∃ a, l[0]? = some a ∧ hexV a = some v) ∨ (k = 2 ∧ ∃ a b q r, l[0]? = some a ∧ l[1]? = some b ∧ hexV a = some q ∧ hexV b = some r ∧ v = 16 * q + r)
def signV (x : Int × UInt8) : Value := .tuple #[.int .u8 (x.2.toNat : Int), .int .i64 x.1]

set_option maxHeartbeats 2000000 in
set_option maxRecDepth 100000 in
theorem sign_any (s : ByteArray) (w : World) : Calls Tryd.prog 83 #[.string s] w fun e w' => e = .returned (signV (signM s.data.toList)) ∧ w = w' := by
  obtain ⟨l, hl⟩ : ∃ l, s.data.toList = l := ⟨_, rfl⟩
  have hlen : l.length = s.size := by rw [← hl]; simp
  have hat : ∀ k (h : k < s.size) (h2 : k < l.length), s[k]'h = l[k]'h2 := fun k h h2 => by subst hl; rfl
  have HLE := Lib.hid hlen
  have HAT := Lib.hid hat
  rw [hl]
  clear hl hlen hat
  go_enter Tryd.func83, Tryd.ntmps83
  go_wp2_with fail
  go_loopg [4, 5, 6, 7] 2 (fun g t4 t5 t6 t7 wr => ∃ k v : Nat, Hid (g = 2 - k ∧ k ≤ 2) ∧ t7 = .int .i64 k ∧ t4 = .int .i64 v ∧ Hid (StM l k v) ∧ w = wr)
  case atStart => exact ⟨0, 0, ⟨rfl, Nat.zero_le _⟩, rfl, rfl, .inl ⟨rfl, rfl⟩, rfl⟩
  case round =>
    obtain ⟨k, v, HK, rfl, rfl, HS, rfl⟩ := hrel
    rcases HS.out with ⟨rfl, rfl⟩ | ⟨rfl, a, h0, hv⟩ | ⟨rfl, a, b, q, r, h0, h1, hq, hr, hv⟩
    · by_cases hz : s.size = 0
      · have HF : Hid (signM l = (5, 0)) := Lib.hid (by
          have : l = [] := List.length_eq_zero_iff.1 (by rw [HLE.out, hz])
          rw [this]; rfl)
        obtain rfl : s = ByteArray.empty := ByteArray.size_eq_zero_iff.1 hz
        clear hz
        go_wp2_with fail
        go_ret2
        rw [HF.out]
        exact ⟨rfl, rfl⟩
      · have hz' : 0 < s.size := by omega
        have hne : ¬ s = ByteArray.empty := fun h => hz (by rw [h]; rfl)
        have hz2 : (0 : Int) < s.size := by omega
        have hkl : 0 < l.length := by rw [HLE.out]; exact hz'
        have hcl := HAT.out 0 hz' hkl
        obtain ⟨a, ha⟩ : ∃ a, s[0]'hz' = a := ⟨_, rfl⟩
        rw [ha] at hcl
        have h0 : l[0]? = some a := by rw [List.getElem?_eq_getElem hkl, ← hcl]
        have HX := Lib.hid (hexIndex_any a w)
        have H0 := Lib.hid h0
        clear hcl hkl h0 hz
        go_wp2_with fail
        refine HX.out.mono ?_
        rintro e w' ⟨rfl, rfl⟩
        cases hv : hexV a with
        | none =>
          have hix : ixM a = -1 := by simp [ixM, hv]
          have HF : Hid (signM l = (7, 0)) := Lib.hid (by
            have h0 := H0.out
            match l, h0 with
            | [_], h0 => simp at h0; subst h0; simp [signM, hv]
            | _ :: _ :: _, h0 => simp at h0; subst h0; simp [signM, hv])
          rw [hix]
          clear hv hix
          go_wp2_with fail
          go_ret2
          rw [HF.out]
          exact ⟨rfl, rfl⟩
        | some q =>
          have hix : ixM a = (q : Int) := by simp [ixM, hv]
          have hq := (hexV_some hv).1
          have hq0 : (0 : Int) ≤ q := by omega
          have hq1 : (q : Int) < 16 := by omega
          have hor : bits .or .i64 0 (q : Int) = (q : Int) := by have := nib_or 0 q (by omega) hq; simpa using this
          have HST : Hid (StM l 1 q) := Lib.hid (.inr (.inl ⟨rfl, a, H0.out, hv⟩))
          rw [hix]
          clear hv hix
          go_wp2_with fail
          go_roundg (2 - (0 + 1))
          case rel => exact ⟨0 + 1, q, ⟨rfl, by omega⟩, by go_num, rfl, HST, rfl⟩
          case measure => have := HK.out; omega
    · obtain ⟨hv16, -⟩ := hexV_some hv
      have hv0 : (0 : Int) ≤ v := by omega
      have hv1 : (v : Int) < 16 := by omega
      have hz1 : 1 ≤ s.size := by
        rw [← HLE.out]
        exact (List.getElem?_eq_some_iff.1 h0).1
      have H0 := Lib.hid h0
      have HV := Lib.hid hv
      clear h0 hv
      by_cases hz : s.size = 1
      · have hz' : (s.size : Int) ≤ 1 := by omega
        have hz3 : ¬ (1 : Int) < s.size := by omega
        have HOP := Lib.hid (opens_any v hv16 w)
        have HF : Hid (signM l = if opensB v = true then (5, 0) else (7, 0)) := Lib.hid (by
          have h0 := H0.out
          have hl : l.length = 1 := by rw [HLE.out, hz]
          match l, hl, h0 with
          | [_], _, h0 => simp at h0; subst h0; simp [signM, HV.out])
        clear hz hz1
        go_wp2_with fail
        refine HOP.out.mono ?_
        rintro e w' ⟨rfl, rfl⟩
        cases hob : opensB v with
        | true =>
          rw [hob, if_pos rfl] at HF
          clear hob
          go_wp2_with fail
          go_ret2
          rw [HF.out]
          exact ⟨rfl, rfl⟩
        | false =>
          rw [hob, if_neg (by decide)] at HF
          clear hob
          go_wp2_with fail
          go_ret2
          rw [HF.out]
          exact ⟨rfl, rfl⟩
      · have hz' : 1 < s.size := by omega
        have hz2 : (1 : Int) < s.size := by omega
        have hkl : 1 < l.length := by rw [HLE.out]; exact hz'
        have hcl := HAT.out 1 hz' hkl
        obtain ⟨b, hb⟩ : ∃ a, s[1]'hz' = a := ⟨_, rfl⟩
        rw [hb] at hcl
        have h1 : l[1]? = some b := by rw [List.getElem?_eq_getElem hkl, ← hcl]
        have HX := Lib.hid (hexIndex_any b w)
        have H1 := Lib.hid h1
        clear hcl hkl h1 hz hz1
        go_wp2_with fail
        refine HX.out.mono ?_
        rintro e w' ⟨rfl, rfl⟩
        cases hvb : hexV b with
        | none =>
          have hix : ixM b = -1 := by simp [ixM, hvb]
          have HF : Hid (signM l = (7, 0)) := Lib.hid (by
            have h0 := H0.out
            have h1 := H1.out
            match l, h0, h1 with
            | _ :: _ :: _, h0, h1 => simp at h0 h1; subst h0 h1; simp [signM, HV.out, hvb])
          rw [hix]
          clear hvb hix
          go_wp2_with fail
          go_ret2
          rw [HF.out]
          exact ⟨rfl, rfl⟩
        | some r =>
          have hix : ixM b = (r : Int) := by simp [ixM, hvb]
          have hr := (hexV_some hvb).1
          have hr0 : (0 : Int) ≤ r := by omega
          have hr1 : (r : Int) < 16 := by omega
          have hor := nib_or v r hv16 hr
          have HST : Hid (StM l 2 (16 * v + r)) := Lib.hid (.inr (.inr ⟨rfl, a, b, v, r, H0.out, H1.out, HV.out, hvb, rfl⟩))
          rw [hix]
          clear hvb hix
          go_wp2_with fail
          go_roundg (2 - (1 + 1))
          case rel => exact ⟨1 + 1, 16 * v + r, ⟨rfl, by omega⟩, by go_num, rfl, HST, rfl⟩
          case measure => have := HK.out; omega
    · obtain ⟨hq16, -⟩ := hexV_some hq
      obtain ⟨hr16, -⟩ := hexV_some hr
      have hby := nib_byte q r hq16 hr16
      have HL2 : Hid (∃ l2, l = a :: b :: l2) := Lib.hid (by
        match l, h0, h1 with
        | x :: y :: l2, h0, h1 => simp at h0 h1; subst h0 h1; exact ⟨l2, rfl⟩)
      rw [← hv] at hby
      have hx0 : (0 : Int) ≤ (v : Int) := by omega
      have hx1 : (v : Int) < 256 := by omega
      have HP := Lib.hid (fun c (hb : plainB (UInt8.ofNat v) = c) => plain_walk (v : Int) c (by rw [← hb]; exact plainB_int _ _ (by rw [hv]; rw [hv] at hby; exact hby)) w)
      have HSG : Hid (signM l = if plainB (UInt8.ofNat v) = true then (7, 0) else (0, UInt8.ofNat v)) := Lib.hid (by
        obtain ⟨l2, rfl⟩ := HL2.out
        simp only [signM, hq, hr]
        rw [← hv])
      have HBY : Hid (((UInt8.ofNat v).toNat : Int) = (v : Int)) := Lib.hid (by rw [hv]; rw [hv] at hby; exact hby)
      clear h0 h1 hq hr hv hby HL2
      cases hpb : plainB (UInt8.ofNat v) with
      | true =>
        have HP1 := Lib.hid (HP.out true hpb)
        rw [hpb, if_pos rfl] at HSG
        clear hpb HP
        go_wp2_with fail
        refine HP1.out.mono ?_
        rintro e w' ⟨rfl, rfl⟩
        go_wp2_with fail
        go_ret2
        rw [HSG.out]
        exact ⟨rfl, rfl⟩
      | false =>
        have HP1 := Lib.hid (HP.out false hpb)
        rw [hpb, if_neg (by decide)] at HSG
        clear hpb HP
        go_wp2_with fail
        refine HP1.out.mono ?_
        rintro e w' ⟨rfl, rfl⟩
        go_wp2_with fail
        go_ret2
        rw [HSG.out, signV, HBY.out]
        exact ⟨rfl, rfl⟩
end Go.Proofs.YtmeneoanmfpecaaDoor
