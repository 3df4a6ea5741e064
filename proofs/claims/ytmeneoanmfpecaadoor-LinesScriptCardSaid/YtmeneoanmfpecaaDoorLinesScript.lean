/- The law LinesScript: its walk. -/
import Derived.Test.YtmeneoanmfpecaaDoorScript
namespace Go.Proofs.YtmeneoanmfpecaaDoor
set_option linter.unusedVariables false
set_option linter.unusedSimpArgs false
open Go.RowKit

/-- Strings in a row. -/
def StrsAt (w : World) (A : Option Addr) (l : List ByteArray) : Prop := ∀ i (hi : i < l.length), ∃ a, A = some a ∧ w.cell? (a.add i) = some (.string l[i])

theorem joinN_snoc (l : List ByteArray) (b : ByteArray) : joinN (l ++ [b]) = joinN l ++ (b.data.toList ++ [10]) := by simp [joinN]
theorem take_succ' {α : Type} (l : List α) (k : Nat) (h : k < l.length) : l.take (k + 1) = l.take k ++ [l[k]] := by simp
theorem script_step (l : List ByteArray) (k : Nat) (h : k < l.length) : scriptM (l.take (k + 1)) 0 [] = if (scriptM (l.take k) 0 []).1 = 0 then scriptM [l[k]] k (scriptM (l.take k) 0 []).2 else scriptM (l.take k) 0 [] := by
  rw [take_succ' l k h, scriptM_append]
  have : 0 + (l.take k).length = k := by simp; omega
  rw [this]

/-- Where a script's lines stand. -/
def St (l : List ByteArray) (k bad : Nat) (acc : List OpR) : Prop := bad = 0 ∧ scriptM (l.take k) 0 [] = (0, acc) ∨ 0 < bad ∧ (scriptM (l.take k) 0 []).1 = bad
theorem st_bad {l : List ByteArray} {k bad : Nat} {acc acc' : List OpR} (h : k < l.length) (hs : St l k bad acc) (hb : 0 < bad) : St l (k + 1) bad acc' := by
  rcases hs with ⟨h1, _⟩ | ⟨_, h2⟩
  · omega
  · refine .inr ⟨hb, ?_⟩
    rw [script_step l k h, if_neg (by omega), h2]
theorem st_skip {l : List ByteArray} {k : Nat} {acc : List OpR} (h : k < l.length) (hs : St l k 0 acc) (hk : skipB l[k].data.toList = true) : St l (k + 1) 0 acc := by
  rcases hs with ⟨_, h2⟩ | ⟨h1, _⟩
  · refine .inl ⟨rfl, ?_⟩
    rw [script_step l k h, h2, if_pos rfl]
    simp only [scriptM, hk, if_true]
  · omega
theorem st_read {l : List ByteArray} {k : Nat} {acc : List OpR} (h : k < l.length) (hs : St l k 0 acc) (hk : skipB l[k].data.toList = false) (x : OpR) (hx : readM l[k].data.toList = (x, 0)) : St l (k + 1) 0 (acc ++ [x]) := by
  rcases hs with ⟨_, h2⟩ | ⟨h1, _⟩
  · refine .inl ⟨rfl, ?_⟩
    rw [script_step l k h, h2, if_pos rfl]
    simp [scriptM, hk, hx]
  · omega
theorem st_fail {l : List ByteArray} {k : Nat} {acc acc' : List OpR} (h : k < l.length) (hs : St l k 0 acc) (hk : skipB l[k].data.toList = false) (hx : readM l[k].data.toList = (zeroOp, 16)) : St l (k + 1) (k + 1) acc' := by
  rcases hs with ⟨_, h2⟩ | ⟨h1, _⟩
  · refine .inr ⟨Nat.succ_pos _, ?_⟩
    rw [script_step l k h, h2, if_pos rfl]
    simp [scriptM, hk, hx]
  · omega

set_option maxHeartbeats 16000000 in
set_option maxRecDepth 100000 in
theorem linesScript_any (A : Option Addr) (ca : Nat) (l : List ByteArray) (w : World) (hd : Door2 w) (ha : StrsAt w A l) :
    Calls Tryd.prog 12 #[.slice A l.length ca] w fun e w' => e = .returned (.bool true) ∧ Below w.heap.size w w' := by
  have HA : Hid (∀ w', Below w.heap.size w w' → Calls Tryd.prog 37 #[] w' fun e w'' => e = .returned (.bool true) ∧ Below w.heap.size w w'') := Lib.hid fun w' hb => (awake37_any w' (hd.below hb)).mono fun e w'' h => ⟨h.1, hb.trans (h.2.mono hb.size)⟩
  have HRD : Hid (∀ b : ByteArray, b.size ≤ 300 → ∀ w', Below w.heap.size w w' → Calls Tryd.prog 44 #[.string b] w' fun e w'' => e = .returned (.tuple #[.agg (readM b.data.toList).1.cells, .int .i64 (readM b.data.toList).2]) ∧ Below w'.heap.size w' w'') := Lib.hid fun b hb w' h => read_any b (by omega) w' (hd.below h)
  have HSC : Hid (∀ (S : ByteArray) (bs : List ByteArray), S.data.toList = joinN bs → (∀ b ∈ bs, ∀ c ∈ b.data.toList, c ≠ 10) → bs.length ≤ 40 → S.size ≤ 1000000 → ∀ w', Below w.heap.size w w' → Calls Tryd.prog 45 #[.string S] w' fun e w'' => ScriptPost (scriptM bs 0 []) e w'' ∧ Below w'.heap.size w' w'') := Lib.hid fun S bs h1 h2 h3 h4 w' h => script_any S bs h1 h2 h3 h4 w' (hd.below h)
  have HL := Lib.hid ha
  obtain ⟨N, hN⟩ : ∃ N, l.length = N := ⟨_, rfl⟩
  have HNN := Lib.hid hN
  rw [hN]
  obtain ⟨M, hM⟩ : ∃ M, min N 40 = M := ⟨_, rfl⟩
  have HM := Lib.hid hM
  obtain ⟨i0, hi, hz0, hz1, hz2⟩ := info_parts info_Op8
  have HI := Lib.hid (And.intro hi (And.intro hz0 (And.intro hz1 hz2)))
  clear hi hz0 hz1 hz2 hd ha hN hM
  go_enter Tryd.func12, Tryd.ntmps12
  go_wp2_with fail
  go_loopg [3, 4, 5, 6, 7, 8, 9] M (fun g t3 t4 t5 t6 t7 t8 t9 wr => ∃ (k m bad : Nat) (A2 : Option Addr) (c : Nat) (acc : List OpR) (S : ByteArray), Hid (g = M - k ∧ k ≤ M ∧ acc.length ≤ k ∧ S.size ≤ 301 * k ∧ bad ≤ k ∧ m = acc.length) ∧ t6 = .int .i64 k ∧ t4 = .slice A2 m c ∧ t3 = .string S ∧ t5 = .int .i64 bad ∧
    Hid (wr.ownsRow w.heap.size 30 8 (.slice A2 m c) m (opV acc)) ∧ Hid (S.data.toList = joinN (l.take k) ∧ (∀ b ∈ l.take k, ∀ c ∈ b.data.toList, c ≠ 10) ∧ St l k bad acc) ∧ Hid (Below w.heap.size w wr))
  case atStart => exact ⟨0, 0, 0, none, 0, [], ⟨#[]⟩, ⟨rfl, Nat.zero_le _, Nat.le_refl _, Nat.le_refl _, Nat.le_refl _, rfl⟩, rfl, rfl, rfl, rfl, World.ownsRow_nil _ _ _ _, ⟨by simp [joinN], by simp, .inl ⟨rfl, by simp [scriptM]⟩⟩, Below.refl _ _⟩
  case round =>
    obtain ⟨k, m, bad, A2, cc, acc, S, HN, rfl, rfl, rfl, rfl, HO, HS, HB⟩ := hrel
    have hk0 : (0 : Int) ≤ k := by omega
    have hkM : k ≤ M := HN.out.2.1
    by_cases hlt : k < M
    · have hk40 : (k : Int) < 40 := by have := HM.out; omega
      have hkN : (k : Int) < N := by have := HM.out; omega
      have hkl : k < l.length := by have := HNN.out; have := HM.out; omega
      obtain ⟨a, rfl, hca⟩ := HL.out k hkl
      have hca := cell_below HB.out hca
      obtain ⟨b, hb⟩ : ∃ b, l[k]'hkl = b := ⟨_, rfl⟩
      rw [hb] at hca
      by_cases h300 : 300 < (b.size : Int)
      · clear hb
        go_wp2_with fail
        refine (HA.out wr HB.out).mono ?_
        rintro e w' ⟨rfl, hb⟩
        have HBA := Lib.hid hb
        clear hb
        go_wp2_with fail
        go_ret
        exact ⟨rfl, HBA.out⟩
      have hSz : S.size ≤ 12040 := by have := HN.out; have := HM.out; omega
      have hbz : b.size ≤ 300 := by omega
      have HBE := Lib.hid hb
      obtain ⟨G, hG⟩ : ∃ G, G = gk := ⟨_, rfl⟩
      have HGG := Lib.hid hG
      rw [← hG] at HN
      clear hG hb
      go_wp2_with fail
      go_loopg [7] b.size (fun g t7 wq => ∃ q : Nat, Hid (g = b.size - q ∧ q ≤ b.size) ∧ t7 = .int .i64 q ∧ Hid (∀ j (h : j < b.size), j < q → b[j]'h ≠ 10) ∧ wr = wq)
      case atStart => exact ⟨0, ⟨rfl, Nat.zero_le _⟩, rfl, fun j h h0 => absurd h0 (Nat.not_lt_zero _), rfl⟩
      case round =>
        obtain ⟨q, HQ, rfl, HC, rfl⟩ := hrel
        have hq0 : (0 : Int) ≤ q := by omega
        by_cases hqs : q < b.size
        · have hqs' : (q : Int) < b.size := by omega
          obtain ⟨c, hc⟩ : ∃ c, b[q]'hqs = c := ⟨_, rfl⟩
          by_cases h10 : c = 10
          · subst h10
            have hcc : ((10 : UInt8).toNat : Int) = 10 := rfl
            go_wp2_with fail
            refine (HA.out wr HB.out).mono ?_
            rintro e w' ⟨rfl, hb⟩
            have HBA := Lib.hid hb
            clear hb
            go_wp2_with fail
            go_ret
            exact ⟨rfl, HBA.out⟩
          · have hc10 : ((c.toNat : Int) == 10) = false := by
              simp only [beq_eq_false_iff_ne, ne_eq]
              intro h
              exact h10 (UInt8.toNat_inj.1 (by have h' : c.toNat = 10 := by exact_mod_cast h
                                               exact h'))
            have HC2 : Hid (∀ j (h : j < b.size), j < q + 1 → b[j]'h ≠ 10) := Lib.hid (fun j h hj => by
              rcases Nat.lt_or_ge j q with h1 | h1
              · exact HC.out j h h1
              · obtain rfl : j = q := by omega
                rw [hc]
                exact h10)
            clear h10
            go_wp2_with fail
            go_roundg (b.size - (q + 1))
            case rel => exact ⟨q + 1, ⟨rfl, hqs⟩, by go_num, HC2, rfl⟩
            case measure => have := HQ.out; omega
        · have hqs' : ¬ (q : Int) < b.size := by omega
          obtain ⟨S2, hS2⟩ : ∃ S2 : ByteArray, S ++ (b ++ (⟨#[10]⟩ : ByteArray)) = S2 := ⟨_, rfl⟩
          have HS2 := Lib.hid hS2
          have HNX : Hid (S2.size ≤ 301 * (k + 1) ∧ S2.data.toList = joinN (l.take (k + 1)) ∧ ∀ b ∈ l.take (k + 1), ∀ c ∈ b.data.toList, c ≠ 10) := Lib.hid (by
            have e1 := take_succ' l k hkl
            rw [HBE.out] at e1
            refine ⟨?_, ?_, ?_⟩
            · rw [← hS2]
              have := HN.out
              have e2 : (S ++ (b ++ (⟨#[10]⟩ : ByteArray))).size = S.size + (b.size + 1) := by
                rw [ByteArray.size_append, ByteArray.size_append]
                rfl
              omega
            · rw [e1, joinN_snoc, ← HS.out.1, ← hS2]
              simp
            · rw [e1]
              intro b' hb'
              rcases List.mem_append.1 hb' with h | h
              · exact HS.out.2.1 b' h
              · simp only [List.mem_singleton] at h
                subst h
                intro c hc
                obtain ⟨j, hj, e⟩ := List.getElem_of_mem hc
                have hj' : j < b'.size := by simpa using hj
                have := HC.out j hj' (by have := HQ.out; omega)
                rw [← e]
                exact this)
          clear hS2
          by_cases hbe : b = ByteArray.empty
          · have HST2 : Hid (St l (k + 1) bad acc) := Lib.hid (by
              have hst := HS.out.2.2
              rcases Nat.eq_zero_or_pos bad with h | h
              · rw [h] at hst ⊢
                exact st_skip hkl hst (by rw [HBE.out, hbe]; rfl)
              · exact st_bad hkl hst h)
            subst hbe
            go_wp2_with fail
            go_roundg (M - (k + 1))
            case rel => exact ⟨k + 1, m, bad, _, cc, acc, S2, ⟨rfl, hlt, by have := HN.out; omega, HNX.out.1, by have := HN.out; omega, by have := HN.out; omega⟩, by go_num, rfl, by rw [← HS2.out]; simp, rfl, HO, ⟨HNX.out.2.1, HNX.out.2.2, HST2.out⟩, HB⟩
            case measure => have := HN.out; have := HGG.out; omega
          have hpos : 0 < b.size := by
            rcases Nat.eq_zero_or_pos b.size with h | h
            · exact absurd (ByteArray.ext (Array.eq_empty_of_size_eq_zero h)) hbe
            · exact h
          obtain ⟨c, hc⟩ : ∃ c, b[0]'hpos = c := ⟨_, rfl⟩
          have hbl : b.data.toList = c :: b.data.toList.drop 1 := by
            have h0 : 0 < b.data.toList.length := by simpa using hpos
            conv => lhs; rw [← List.drop_zero (l := b.data.toList), List.drop_eq_getElem_cons h0]
            rw [← hc]
            rfl
          have hskip : skipB l[k].data.toList = (c == 35) := by rw [HBE.out, hbl]; rfl
          have hie : b.toList.isEmpty = false := by rw [ByteArray.toList_eq, hbl]; rfl
          clear hbl
          by_cases h35 : c = 35
          · subst h35
            have hcc : ((35 : UInt8).toNat : Int) = 35 := rfl
            have HST2 : Hid (St l (k + 1) bad acc) := Lib.hid (by
              have hst := HS.out.2.2
              rcases Nat.eq_zero_or_pos bad with h | h
              · rw [h] at hst ⊢
                exact st_skip hkl hst (by rw [hskip]; rfl)
              · exact st_bad hkl hst h)
            clear hskip
            go_wp2_with fail
            go_roundg (M - (k + 1))
            case rel => exact ⟨k + 1, m, bad, _, cc, acc, S2, ⟨rfl, hlt, by have := HN.out; omega, HNX.out.1, by have := HN.out; omega, by have := HN.out; omega⟩, by go_num, rfl, by rw [← HS2.out], rfl, HO, ⟨HNX.out.2.1, HNX.out.2.2, HST2.out⟩, HB⟩
            case measure => have := HN.out; have := HGG.out; omega
          have hc35 : ((c.toNat : Int) == 35) = false := by
            simp only [beq_eq_false_iff_ne, ne_eq]
            intro h
            exact h35 (UInt8.toNat_inj.1 (by have h' : c.toNat = 35 := by exact_mod_cast h
                                             exact h'))
          have hsk : skipB l[k].data.toList = false := by rw [hskip]; simpa using h35
          clear hskip h35
          by_cases hbad : 0 < bad
          · have HST2 : Hid (St l (k + 1) bad acc) := Lib.hid (st_bad hkl HS.out.2.2 hbad)
            have hbad' : (0 : Int) < bad := by omega
            clear hsk
            go_wp2_with fail
            go_roundg (M - (k + 1))
            case rel => exact ⟨k + 1, m, bad, _, cc, acc, S2, ⟨rfl, hlt, by have := HN.out; omega, HNX.out.1, by have := HN.out; omega, by have := HN.out; omega⟩, by go_num, rfl, by rw [← HS2.out], rfl, HO, ⟨HNX.out.2.1, HNX.out.2.2, HST2.out⟩, HB⟩
            case measure => have := HN.out; have := HGG.out; omega
          obtain rfl : bad = 0 := by omega
          clear hbad
          have HSK := Lib.hid hsk
          have HKL := Lib.hid hkl
          have HRW := Lib.hid (HRD.out b hbz wr HB.out)
          clear hsk
          rcases read_zero_or b.data.toList with hz | hz
          · obtain ⟨x, e0, hx⟩ : ∃ x e, readM b.data.toList = (x, e) := ⟨_, _, rfl⟩
            rw [hx] at hz HRW
            simp only at hz
            subst hz
            have HST2 : Hid (St l (k + 1) 0 (acc ++ [x])) := Lib.hid (st_read HKL.out HS.out.2.2 HSK.out x (by rw [HBE.out]; exact hx))
            clear hx
            obtain ⟨kk, p, t, n, aa, mm, u, v⟩ := x
            simp only [OpR.cells] at HRW
            go_wp2_with fail
            refine HRW.out.mono ?_
            rintro e w2 ⟨rfl, hb2⟩
            have HB2 := Lib.hid hb2
            have HO2 : Hid (w2.ownsRow w.heap.size 30 8 (.slice A2 m cc) m (opV acc)) := Lib.hid (own_keep HO.out (fun q hq => hb2.block q (own_lt' HO.out q hq)))
            have HBW : Hid (Below w.heap.size w w2) := Lib.hid (HB.out.trans (hb2.mono HB.out.size))
            clear hb2
            go_wp2_with (at_builtin; refine wpList_append_own _ rfl _ _ 67 rfl w.heap.size 30 i0 opZ8 8 80 Tryd.underlying67 HI.out.1 HI.out.2.1 HI.out.2.2.1 HI.out.2.2.2 rfl (by decide) (.slice A2 m cc) m (opV acc) rfl ((HO2.out.alloc _).alloc _) _ 1 1 (opV [⟨kk, p, t, n, aa, mm, u, v⟩]) rfl rfl (cells_new2 w2 _ _ _) (opV_one _) (by have := HN.out; have := HM.out; unfold maxLen; omega) (by have := HN.out; have := HM.out; omega) (by have := HBW.out.size; simp; omega) ?_; intro v' w3 hown' hgrow hnil; obtain ⟨A4, c4, hv⟩ := own_shape hown'; subst hv; have HO3 : Hid (w3.ownsRow w.heap.size 30 8 (.slice A4 (m + 1) c4) (m + 1) (opV (acc ++ [⟨kk, p, t, n, aa, mm, u, v⟩]))) := (by rw [opV_append]; exact hown'); have HB3 : Hid (Below w.heap.size w w3) := ((HBW.out.alloc HBW.out.size _).alloc (by have := HBW.out.size; simp; omega) _).grown hgrow (by have := HBW.out.size; simp; omega) (fun q e => own_ge' HO2.out q e); clear hown' hgrow hnil)
            go_roundg (M - (k + 1))
            case rel => exact ⟨k + 1, m + 1, 0, A4, c4, acc ++ [⟨kk, p, t, n, aa, mm, u, v⟩], S2, ⟨rfl, hlt, by have := HN.out; simp; omega, HNX.out.1, by omega, by have := HN.out; simp; omega⟩, by go_num, rfl, by rw [← HS2.out], rfl, HO3, ⟨HNX.out.2.1, HNX.out.2.2, HST2.out⟩, HB3⟩
            case measure => have := HN.out; have := HGG.out; omega
          · rw [hz] at HRW
            have HST2 : Hid (St l (k + 1) (k + 1) (acc ++ [zeroOp])) := Lib.hid (st_fail HKL.out HS.out.2.2 HSK.out (by rw [HBE.out]; exact hz))
            simp only [OpR.cells, zeroOp] at HRW
            clear hz
            go_wp2_with fail
            refine HRW.out.mono ?_
            rintro e w2 ⟨rfl, hb2⟩
            have HB2 := Lib.hid hb2
            have HO2 : Hid (w2.ownsRow w.heap.size 30 8 (.slice A2 m cc) m (opV acc)) := Lib.hid (own_keep HO.out (fun q hq => hb2.block q (own_lt' HO.out q hq)))
            have HBW : Hid (Below w.heap.size w w2) := Lib.hid (HB.out.trans (hb2.mono HB.out.size))
            clear hb2
            go_wp2_with (at_builtin; refine wpList_append_own _ rfl _ _ 67 rfl w.heap.size 30 i0 opZ8 8 80 Tryd.underlying67 HI.out.1 HI.out.2.1 HI.out.2.2.1 HI.out.2.2.2 rfl (by decide) (.slice A2 m cc) m (opV acc) rfl ((HO2.out.alloc _).alloc _) _ 1 1 (opV [zeroOp]) rfl rfl (cells_new2 w2 _ _ _) (opV_one _) (by have := HN.out; have := HM.out; unfold maxLen; omega) (by have := HN.out; have := HM.out; omega) (by have := HBW.out.size; simp; omega) ?_; intro v' w3 hown' hgrow hnil; obtain ⟨A4, c4, hv⟩ := own_shape hown'; subst hv; have HO3 : Hid (w3.ownsRow w.heap.size 30 8 (.slice A4 (m + 1) c4) (m + 1) (opV (acc ++ [zeroOp]))) := (by rw [opV_append]; exact hown'); have HB3 : Hid (Below w.heap.size w w3) := ((HBW.out.alloc HBW.out.size _).alloc (by have := HBW.out.size; simp; omega) _).grown hgrow (by have := HBW.out.size; simp; omega) (fun q e => own_ge' HO2.out q e); clear hown' hgrow hnil)
            go_roundg (M - (k + 1))
            case rel => exact ⟨k + 1, m + 1, k + 1, A4, c4, acc ++ [zeroOp], S2, ⟨rfl, hlt, by have := HN.out; simp; omega, HNX.out.1, by omega, by have := HN.out; simp; omega⟩, by go_num, rfl, by rw [← HS2.out], by go_num, HO3, ⟨HNX.out.2.1, HNX.out.2.2, HST2.out⟩, HB3⟩
            case measure => have := HN.out; have := HGG.out; omega
    · have hkk : k = M := by omega
      have hm := HN.out.2.2.2.2.2
      subst hm
      have HSCW := Lib.hid (HSC.out S (l.take k) HS.out.1 HS.out.2.1 (by have := HM.out; simp; omega) (by have := HN.out; have := HM.out; omega) wr HB.out)
      obtain ⟨R, hR⟩ : ∃ R, scriptM (l.take k) 0 [] = R := ⟨_, rfl⟩
      rw [hR] at HSCW
      have hst := HS.out.2.2
      unfold St at hst
      rw [hR] at hst
      have hacc : acc.length ≤ 40 := by have := HN.out; have := HM.out; omega
      have HCMP : (k : Int) < N ∧ ¬ (k : Int) < 40 ∨ ¬ (k : Int) < N := by have := HM.out; omega
      rcases hst with ⟨rfl, rfl⟩ | ⟨hbad, hR1⟩
      · clear hR hkk hlt
        rcases HCMP with ⟨h1, h2⟩ | h1
        · go_wp2_with fail
          refine HSCW.out.mono ?_
          rintro e w2 ⟨hp, hb2⟩
          obtain ⟨A5, c5, rfl, hops⟩ := hp.1 rfl
          have HSM := Lib.hid (same34_any A5 A2 c5 cc acc (by omega) w2 hops (OpsAt.below (ops_own HO.out).2 hb2))
          have HBW : Hid (Below w.heap.size w w2) := Lib.hid (HB.out.trans (hb2.mono HB.out.size))
          clear hp hops hb2
          go_wp2_with fail
          refine HSM.out.mono ?_
          rintro e w3 ⟨rfl, hb3⟩
          have HB3 : Hid (Below w.heap.size w w3) := Lib.hid (HBW.out.trans (hb3.mono HBW.out.size))
          clear hb3
          go_wp2_with fail
          refine (HA.out w3 HB3.out).mono ?_
          rintro e w4 ⟨rfl, hb4⟩
          have HB4 := Lib.hid hb4
          clear hb4
          go_wp2_with fail
          go_ret
          exact ⟨rfl, HB4.out⟩
        · go_wp2_with fail
          refine HSCW.out.mono ?_
          rintro e w2 ⟨hp, hb2⟩
          obtain ⟨A5, c5, rfl, hops⟩ := hp.1 rfl
          have HSM := Lib.hid (same34_any A5 A2 c5 cc acc (by omega) w2 hops (OpsAt.below (ops_own HO.out).2 hb2))
          have HBW : Hid (Below w.heap.size w w2) := Lib.hid (HB.out.trans (hb2.mono HB.out.size))
          clear hp hops hb2
          go_wp2_with fail
          refine HSM.out.mono ?_
          rintro e w3 ⟨rfl, hb3⟩
          have HB3 : Hid (Below w.heap.size w w3) := Lib.hid (HBW.out.trans (hb3.mono HBW.out.size))
          clear hb3
          go_wp2_with fail
          refine (HA.out w3 HB3.out).mono ?_
          rintro e w4 ⟨rfl, hb4⟩
          have HB4 := Lib.hid hb4
          clear hb4
          go_wp2_with fail
          go_ret
          exact ⟨rfl, HB4.out⟩
      · have hbad' : (0 : Int) < bad := by omega
        have HRB := Lib.hid hR1
        clear hR hkk hlt hR1
        rcases HCMP with ⟨h1, h2⟩ | h1
        · go_wp2_with fail
          refine HSCW.out.mono ?_
          rintro e w2 ⟨hp, hb2⟩
          have hp2 := hp.2 (by have := HRB.out; omega)
          rw [HRB.out] at hp2
          subst hp2
          have HBW : Hid (Below w.heap.size w w2) := Lib.hid (HB.out.trans (hb2.mono HB.out.size))
          clear hp hb2
          go_wp2_with fail
          refine (HA.out w2 HBW.out).mono ?_
          rintro e w4 ⟨rfl, hb4⟩
          have HB4 := Lib.hid hb4
          clear hb4
          go_wp2_with fail
          go_ret
          exact ⟨rfl, HB4.out⟩
        · go_wp2_with fail
          refine HSCW.out.mono ?_
          rintro e w2 ⟨hp, hb2⟩
          have hp2 := hp.2 (by have := HRB.out; omega)
          rw [HRB.out] at hp2
          subst hp2
          have HBW : Hid (Below w.heap.size w w2) := Lib.hid (HB.out.trans (hb2.mono HB.out.size))
          clear hp hb2
          go_wp2_with fail
          refine (HA.out w2 HBW.out).mono ?_
          rintro e w4 ⟨rfl, hb4⟩
          have HB4 := Lib.hid hb4
          clear hb4
          go_wp2_with fail
          go_ret
          exact ⟨rfl, HB4.out⟩
end Go.Proofs.YtmeneoanmfpecaaDoor
