/- package lines: kinds, numbers and texts of a line. -/
import Derived.Deep.LoopGhost
import Derived.StillTailTactics
import Derived.Deep.RegionHeld3
import Derived.Deep.QuietTactic
import Derived.BigQuiet
import Derived.WalkSpells
import Derived.Lib.SmallJoins
import Derived.Test.YtmeneoanmfpecaaDoorReadPure
import Derived.Test.YtmeneoanmfpecaaDoorUnquote
import Derived.Test.YtmeneoanmfpecaaDoorShort2
namespace Go.Proofs.YtmeneoanmfpecaaDoor
set_option linter.unusedVariables false
set_option linter.unusedSimpArgs false
open Go.RowKit

/-- What the laws of lines lean on beside the tables. -/
structure Door2 (w : World) : Prop extends Door w where
  errS : ∃ tp p, w.var? Tryd.prog "strconv.ErrSyntax" = some #[.iface tp p]
  errR : ∃ tp p, w.var? Tryd.prog "strconv.ErrRange" = some #[.iface tp p]
  maxl : ∃ m, w.cell? ⟨3, 0, none⟩ = some (.int .i64 m)
theorem var_below {P : Program} {w w' : World} {n : String} {v : Array Value} (h : w.var? P n = some v) (hb : Below w.heap.size w w') : w'.var? P n = some v := by
  unfold World.var? at h ⊢
  cases hg : P.globalNamed n with
  | none => rw [hg] at h; cases h
  | some g =>
    rw [hg] at h
    simp only [Option.bind_some] at h ⊢
    have hlt : g < w.heap.size := by
      rcases Nat.lt_or_ge g w.heap.size with h1 | h1
      · exact h1
      · rw [Array.getElem?_eq_none h1] at h
        cases h
    rw [hb.block g hlt]
    exact h
theorem Door2.below {w w' : World} (h : Door2 w) (hb : Below w.heap.size w w') : Door2 w' where
  toDoor := h.toDoor.below hb
  errS := by obtain ⟨t, p, e⟩ := h.errS; exact ⟨t, p, var_below e hb⟩
  errR := by obtain ⟨t, p, e⟩ := h.errR; exact ⟨t, p, var_below e hb⟩
  maxl := by obtain ⟨m, e⟩ := h.maxl; exact ⟨m, cell_below hb e⟩

theorem cutw_any (s : ByteArray) (hs : s.size ≤ 1000000) (w : World) (hd : Door2 w) :
    Calls Tryd.prog 89 #[.string s, .string ⟨#[32]⟩] w fun e w' => (∃ y z, e = .returned (.tuple #[.string ⟨(s.data.toList.takeWhile nb).toArray⟩, .string y, .bool z])) ∧ Below w.heap.size w w' := by
  obtain ⟨m, hm⟩ := hd.maxl
  refine (Tryd.strings_Cut s ⟨#[32]⟩ m w (by omega) hm).mono ?_
  rintro e w' ⟨rfl, n, rfl⟩
  have h : (⟨#[32]⟩ : ByteArray).data.toList = [32] := rfl
  rw [h, cut_blank]
  exact ⟨⟨_, _, rfl⟩, below_drawn (Below.refl _ _) _⟩

theorem atoi_any (s : ByteArray) (hs : s.size ≤ 1000000) (w : World) (hd : Door2 w) :
    Calls Tryd.prog 125 #[.string s] w fun e w' => (match Lib.atoiAll s.data.toList with | .ok v => e = .returned (.tuple #[.int .i64 v, .nilIface]) | _ => ∃ v t p, e = .returned (.tuple #[.int .i64 v, .iface t p])) ∧ Below w.heap.size w w' := by
  cases h : Lib.atoiAll s.data.toList with
  | ok v =>
    refine (Tryd.strconv_Atoi_ok s (by omega) v h w).mono ?_
    rintro e w' ⟨rfl, hw⟩
    refine ⟨rfl, ?_⟩
    rcases hw with rfl | ⟨t, rfl⟩
    · exact Below.refl _ _
    · exact Go.Joins.below_bytesWorld _ _ _ _ (Nat.le_refl _)
  | range =>
    obtain ⟨tp, p, hv⟩ := hd.errR
    refine (Tryd.strconv_Atoi_range_var s (by omega) h tp p w hv).mono ?_
    rintro e w' ⟨N, rfl, _, _, hb⟩
    exact ⟨⟨_, _, _, rfl⟩, hb⟩
  | _ =>
    obtain ⟨tp, p, hv⟩ := hd.errS
    refine (Any.strconv_Atoi_syntax_var Tryd.laysC172 s (by omega) h tp p w hv).mono ?_
    rintro e w' ⟨N, rfl, _, _, hb⟩
    exact ⟨⟨_, _, _, rfl⟩, hb⟩

theorem kindM_lt (l : List UInt8) : (kindM l).1 < 13 := by
  unfold kindM
  split
  · rename_i i h
    have := (List.idxOf?_eq_some_iff.1 h)
    obtain ⟨h1, _⟩ := this
    exact h1
  · decide
def KindSt (l : List UInt8) (k : Nat) : Prop := ∀ j, j < k → wordL.getD j [] ≠ l

theorem kindM_found (l : List UInt8) (k : Nat) (hk : k < 13) (h : KindSt l k) (he : wordL.getD k [] = l) : kindM l = (k, true) := by
  have hl : wordL.length = 13 := rfl
  have : wordL.idxOf? l = some k := by
    rw [List.idxOf?_eq_some_iff]
    refine ⟨by omega, ?_, fun j hj => ?_⟩
    · rw [List.getD_eq_getElem?_getD, List.getElem?_eq_getElem (by omega)] at he
      simpa using he
    · have := h j hj
      rw [List.getD_eq_getElem?_getD, List.getElem?_eq_getElem (by omega)] at this
      simpa using this
  unfold kindM
  rw [this]
theorem kindM_none (l : List UInt8) (h : KindSt l 13) : kindM l = (0, false) := by
  have : wordL.idxOf? l = none := by
    rw [List.idxOf?_eq_none_iff]
    intro hm
    obtain ⟨j, hj, e⟩ := List.getElem_of_mem hm
    refine h j hj ?_
    rw [List.getD_eq_getElem?_getD, List.getElem?_eq_getElem hj]
    exact e
  unfold kindM
  rw [this]

set_option maxHeartbeats 2000000 in
set_option maxRecDepth 100000 in
theorem lkind_any (s : ByteArray) (w : World) (hd : Door w) :
    Calls Tryd.prog 90 #[.string s] w fun e w' => e = .returned (.tuple #[.int .i64 (kindM s.data.toList).1, .bool (kindM s.data.toList).2]) ∧ Below w.heap.size w w' := by
  obtain ⟨w1, hw1⟩ : ∃ W, w.alloc (.cells (wordL.map fun l => Value.string ⟨l.toArray⟩).toArray 9) = W := ⟨_, rfl⟩
  have HF : Hid (Calls Tryd.prog 121 #[.string wordsS] w fun e w' => e = .returned (.slice (some ⟨w.heap.size, 0, none⟩) 13 13) ∧ w1 = w') := Lib.hid ((fields_any w hd).mono fun e w' h => ⟨h.1, by rw [h.2, hw1]⟩)
  have HB1 : Hid (Below w.heap.size w w1) := Lib.hid (by rw [← hw1]; exact (Below.refl _ _).alloc (Nat.le_refl _) _)
  have HC : Hid (∀ k, k < 13 → w1.cell? ⟨w.heap.size, k, none⟩ = some (.string ⟨(wordL.getD k []).toArray⟩)) := Lib.hid (fun k hk => by
    have hl : wordL.length = 13 := rfl
    rw [← hw1, World.cell?_alloc_new]
    simp [List.getElem?_eq_getElem (show k < wordL.length by omega)])
  obtain ⟨l, hl⟩ : ∃ l, s.data.toList = l := ⟨_, rfl⟩
  have HL := Lib.hid hl
  rw [hl]
  clear hl hd hw1
  go_enter Tryd.func90, Tryd.ntmps90
  go_wp2_with fail
  refine HF.out.mono ?_
  rintro e w' ⟨rfl, rfl⟩
  go_wp2_with fail
  go_loopg [4, 5, 8] 13 (fun g t4 t5 t8 wr => ∃ k : Nat, Hid (g = 13 - k ∧ k ≤ 13) ∧ t8 = .int .i64 k ∧ Hid (KindSt l k) ∧ w1 = wr)
  case atStart => exact ⟨0, ⟨rfl, Nat.zero_le _⟩, rfl, Lib.hid (fun j hj => by omega), rfl⟩
  case round =>
    obtain ⟨k, HK, rfl, HS, rfl⟩ := hrel
    by_cases hlt : k < 13
    · have hlt' : (k : Int) < 13 := by omega
      have hc := HC.out k hlt
      by_cases he : wordL.getD k [] = l
      · have HR := Lib.hid (kindM_found l k hlt HS.out he)
        have hs : (⟨(wordL.getD k []).toArray⟩ : ByteArray) = s := by
          apply ByteArray.ext
          rw [he, ← HL.out]
        rw [hs] at hc
        clear he hs
        go_wp2_with fail
        go_ret2
        rw [HR.out]
        exact ⟨rfl, HB1.out⟩
      · have HS2 : Hid (KindSt l (k + 1)) := Lib.hid (fun j hj => by
          rcases Nat.lt_or_ge j k with h | h
          · exact HS.out j h
          · obtain rfl : j = k := by omega
            exact he)
        obtain ⟨o, ho⟩ : ∃ o : ByteArray, ⟨(wordL.getD k []).toArray⟩ = o := ⟨_, rfl⟩
        have hne : (o.toList == s.toList) = false := by
          rw [ByteArray.toList_eq, ByteArray.toList_eq, HL.out, ← ho]
          simpa using he
        rw [ho] at hc
        clear he ho
        go_wp2_with fail
        go_roundg (13 - (k + 1))
        case rel => exact ⟨k + 1, ⟨rfl, hlt⟩, by go_num, HS2, rfl⟩
        case measure => have := HK.out; omega
    · have hlt' : ¬ (k : Int) < 13 := by omega
      have HR : Hid (kindM l = (0, false)) := Lib.hid (kindM_none l (by
        obtain rfl : k = 13 := by have := HK.out; omega
        exact HS.out))
      go_wp2_with fail
      go_ret2
      rw [HR.out]
      exact ⟨rfl, HB1.out⟩
end Go.Proofs.YtmeneoanmfpecaaDoor
