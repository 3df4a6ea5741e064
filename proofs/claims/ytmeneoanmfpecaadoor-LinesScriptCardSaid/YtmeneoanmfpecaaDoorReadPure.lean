/- Reading a line, in plain words. -/
import Derived.Test.YtmeneoanmfpecaaDoorUnq
import Derived.Test.YtmeneoanmfpecaaDoorLineText
import Derived.Test.YtmeneoanmfpecaaDoorItoaInj
import Derived.Lib.AtoiAll
import Derived.Lib.IndexMore
namespace Go.Proofs.YtmeneoanmfpecaaDoor
set_option linter.unusedVariables false
set_option linter.unusedSimpArgs false

def nb (c : UInt8) : Bool := c != 32
/-- The kind of a word; false: there is none. -/
def kindM (l : List UInt8) : Nat × Bool := match wordL.idxOf? l with
  | some i => (i, true)
  | none => (0, false)
/-- A number behind a blank. -/
def numM : List UInt8 → Option (Int × List UInt8)
  | [] => none
  | c :: t => if c = 32 then (match Lib.atoiAll (t.takeWhile nb) with
      | .ok v => if Lib.itoa v = t.takeWhile nb then some (v, t.dropWhile nb) else none
      | _ => none) else none
/-- A text behind a blank. -/
def txtM : List UInt8 → Option (List UInt8 × List UInt8)
  | [] => none
  | c :: t => if c = 32 then (if (unquoteM t).2.2 = 0 then some ((unquoteM t).1, t.drop (unquoteM t).2.1) else none) else none
def OpR.setNum (x : OpR) (i : Nat) (v : Int) : OpR := match i with
  | 1 => { x with p := v }
  | 2 => { x with t := v }
  | 3 => { x with n := v }
  | 4 => { x with a := v }
  | 5 => { x with m := v }
  | _ => x
def OpR.setTxt (x : OpR) (i : Nat) (v : ByteArray) : OpR := match i with
  | 6 => { x with u := v }
  | 7 => { x with v := v }
  | _ => x
def numStep (st : List UInt8 × Bool × OpR) (i : Nat) : List UInt8 × Bool × OpR :=
  if st.2.1 = true then (match numM st.1 with
    | some (v, r) => (r, true, st.2.2.setNum i v)
    | none => ([], false, st.2.2)) else st
def txtStep (st : List UInt8 × Bool × OpR) (i : Nat) : List UInt8 × Bool × OpR :=
  if st.2.1 = true then (match txtM st.1 with
    | some (v, r) => (r, true, st.2.2.setTxt i ⟨v.toArray⟩)
    | none => ([], false, st.2.2)) else st
def zeroOp : OpR := ⟨0, 0, 0, 0, 0, 0, ⟨#[]⟩, ⟨#[]⟩⟩
def readAll (l : List UInt8) : List UInt8 × Bool × OpR :=
  (textP (kindM (l.takeWhile nb)).1).foldl txtStep ((numP (kindM (l.takeWhile nb)).1).foldl numStep (l.dropWhile nb, (kindM (l.takeWhile nb)).2, { zeroOp with k := ((kindM (l.takeWhile nb)).1 : Int) }))
/-- The operation of a line, and an error's number. -/
def readM (l : List UInt8) : OpR × Int :=
  if (readAll l).2.1 = true ∧ (readAll l).1 = [] ∧ checkM (readAll l).2.2 = 0 then ((readAll l).2.2, 0) else (zeroOp, 16)

/-! ### strings.Cut, IndexByte and CutPrefix at a blank -/
theorem index_blank (l : List UInt8) : (0 ≤ Lib.index l [32] ↔ ∃ c ∈ l, c = 32) ∧ (0 ≤ Lib.index l [32] → (Lib.index l [32]).toNat = (l.takeWhile nb).length) := by
  induction l with
  | nil => simp [Lib.index]
  | cons b l ih =>
    have hge := Lib.index_ge l [32]
    unfold Lib.index
    by_cases hb : b = 32
    · subst hb
      simp [List.takeWhile_cons, nb]
    · have h1 : ([32] : List UInt8).isPrefixOf (b :: l) = false := by simp [List.isPrefixOf]; exact fun h => hb h.symm
      rw [h1]
      simp only [Bool.false_eq_true, if_false]
      have h2 : nb b = true := by simp [nb, hb]
      rw [List.takeWhile_cons, h2]
      simp only [if_true]
      by_cases h3 : Lib.index l [32] = -1
      · simp only [h3, beq_self_eq_true, if_true]
        rw [h3] at ih
        refine ⟨⟨fun h => by omega, fun ⟨c, hc, e⟩ => ?_⟩, fun h => by omega⟩
        rcases List.mem_cons.1 hc with h | h
        · exact absurd (h.symm.trans e) hb
        · exact absurd (ih.1.2 ⟨c, h, e⟩) (by omega)
      · have h4 : (Lib.index l [32] == -1) = false := by simpa using h3
        rw [h4]
        simp only [Bool.false_eq_true, if_false]
        refine ⟨⟨fun _ => ?_, fun _ => by omega⟩, fun _ => ?_⟩
        · obtain ⟨c, hc, e⟩ := ih.1.1 (by omega)
          exact ⟨c, List.mem_cons_of_mem _ hc, e⟩
        · have := ih.2 (by omega)
          simp only [List.length_cons]
          omega
theorem takeWhile_all (l : List UInt8) (h : ¬ ∃ c ∈ l, c = 32) : l.takeWhile nb = l := by
  induction l with
  | nil => rfl
  | cons c l ih =>
    have hc : nb c = true := by
      simp only [nb, bne_iff_ne, ne_eq]
      exact fun e => h ⟨c, by simp, e⟩
    rw [List.takeWhile_cons, hc]
    simp only [if_true]
    rw [ih fun ⟨d, hd, e⟩ => h ⟨d, List.mem_cons_of_mem _ hd, e⟩]
theorem take_takeWhile (l : List UInt8) : l.take (l.takeWhile nb).length = l.takeWhile nb := by
  conv => lhs; rw [← List.takeWhile_append_dropWhile (p := nb) (l := l)]
  rw [List.take_left']
  rw [List.takeWhile_append_dropWhile]
theorem drop_takeWhile (l : List UInt8) : l.drop (l.takeWhile nb).length = l.dropWhile nb := by
  conv => lhs; rw [← List.takeWhile_append_dropWhile (p := nb) (l := l)]
  rw [List.drop_left']
  rw [List.takeWhile_append_dropWhile]
theorem cut_blank (l : List UInt8) : (Lib.cut l [32]).1 = l.takeWhile nb := by
  unfold Lib.cut
  split
  · rename_i h
    rw [(index_blank l).2 h]
    exact take_takeWhile l
  · rename_i h
    exact (takeWhile_all l (fun hh => h ((index_blank l).1.2 hh))).symm
theorem indexByte_index (l : List UInt8) : Lib.indexByte l 32 = Lib.index l [32] := by
  induction l with
  | nil => simp [Lib.indexByte, Lib.index]
  | cons b l ih =>
    unfold Lib.indexByte Lib.index
    rw [ih]
    by_cases hb : b = 32
    · subst hb; simp [List.isPrefixOf]
    · have h1 : ([32] : List UInt8).isPrefixOf (b :: l) = false := by simp [List.isPrefixOf]; exact fun h => hb h.symm
      have h2 : (b == 32) = false := by simpa using hb
      rw [h1, h2]
/-- Where a number's text ends. -/
theorem end_blank (l : List UInt8) : (if 0 ≤ Lib.indexByte l 32 then Lib.indexByte l 32 else (l.length : Int)) = ((l.takeWhile nb).length : Int) := by
  rw [indexByte_index]
  split
  · rename_i h
    have := (index_blank l).2 h
    omega
  · rename_i h
    rw [takeWhile_all l (fun hh => h ((index_blank l).1.2 hh))]

/-! ### Atoi of a number's text -/
theorem parse_digits (u : Nat) (hu : u < 18446744073709551616) : ∀ (acc : Nat) (r : List UInt8), Lib.parseUint10 0 (Lib.decDigits u ++ r) = Lib.parseUint10 u r := by
  intro acc r
  clear acc
  induction u using Nat.strongRecOn generalizing r with
  | ind u ih =>
    rw [Lib.decDigits]
    split
    · rename_i h
      have e := digit_toNat u h
      rw [List.singleton_append, Lib.parseUint10, e, if_pos (by omega), if_neg (by omega), if_neg (by omega)]
      congr 1
      omega
    · rename_i h
      have e := digit_toNat (u % 10) (by omega)
      rw [List.append_assoc, ih (u / 10) (by omega) (by omega), List.singleton_append, Lib.parseUint10, e, if_pos (by omega), if_neg (by omega), if_neg (by omega)]
      congr 1
      omega
theorem mag_digits (u : Nat) (hu : u < 18446744073709551616) : Lib.parseMag (Lib.decDigits u) = .ok u := by
  unfold Lib.parseMag
  rw [if_neg (digits_ne u)]
  have := parse_digits u hu 0 []
  rw [List.append_nil] at this
  rw [this]
  rfl
theorem atoi_itoa (v : Int) (h0 : -9223372036854775808 ≤ v) (h1 : v ≤ 9223372036854775807) : Lib.atoiAll (Lib.itoa v) = .ok v := by
  unfold Lib.itoa
  split
  · rename_i hv
    have h45 : (45 : UInt8).toNat = 45 := rfl
    simp only [Lib.atoiAll, h45, or_true, if_true]
    rw [mag_digits v.natAbs (by omega)]
    simp only [not_true_eq_false, false_and, if_false, true_and]
    rw [if_neg (by omega)]
    congr 1
    omega
  · rename_i hv
    obtain ⟨c, r, hc⟩ : ∃ c r, Lib.decDigits v.toNat = c :: r := by
      cases h : Lib.decDigits v.toNat with
      | nil => exact absurd h (digits_ne _)
      | cons c r => exact ⟨c, r, rfl⟩
    have hcd := digits_mem v.toNat c (by rw [hc]; simp)
    rw [hc]
    simp only [Lib.atoiAll]
    rw [if_neg (by omega), ← hc, mag_digits v.toNat (by omega)]
    simp only
    rw [if_neg (by omega), if_neg (by omega), if_neg (by omega)]
    congr 1
    omega
theorem atoi_range {l : List UInt8} {v : Int} (h : Lib.atoiAll l = .ok v) : -9223372036854775808 ≤ v ∧ v ≤ 9223372036854775807 := by
  unfold Lib.atoiAll at h
  split at h
  · cases h
  · rename_i c r
    simp only at h
    split at h
    · cases h
    · cases h
    · rename_i u hu
      split at h
      · cases h
      · split at h
        · cases h
        · rename_i h1 h2
          injection h with h
          subst h
          split <;> omega
end Go.Proofs.YtmeneoanmfpecaaDoor
