/- package lines: a number and a text behind a blank, put into an operation. -/
import Derived.Lib.Builder
import Derived.Laws.Rows
import Derived.Test.YtmeneoanmfpecaaDoorRead
namespace Go.Proofs.YtmeneoanmfpecaaDoor
set_option linter.unusedVariables false
set_option linter.unusedSimpArgs false
open Go.RowKit

/-- An operation that lies at block b. -/
def OpAt (w : World) (b : Nat) (x : OpR) : Prop := w.heap[b]? = some (.cells x.cells 30 (0, 0))
/-- What was there is as it was, but for block b, where x lies. -/
structure Stored (b : Nat) (x : OpR) (w w' : World) : Prop where
  at_ : OpAt w' b x
  os : w'.os = w.os
  tape : w'.tape = w.tape
  output : w'.output = w.output
  size : w.heap.size ≤ w'.heap.size
  block : ∀ k, k < w.heap.size → k ≠ b → w'.heap[k]? = w.heap[k]?
theorem OpAt.below {w w' : World} {b : Nat} {x : OpR} (h : OpAt w b x) (hb : Below w.heap.size w w') : OpAt w' b x := by
  have hlt : b < w.heap.size := by
    rcases Nat.lt_or_ge b w.heap.size with h1 | h1
    · exact h1
    · unfold OpAt at h; rw [Array.getElem?_eq_none h1] at h; cases h
  unfold OpAt
  rw [hb.block b hlt]
  exact h
theorem Stored.of_below {b : Nat} {x : OpR} {w w' : World} (h : OpAt w b x) (hb : Below w.heap.size w w') : Stored b x w w' :=
  ⟨h.below hb, hb.os, hb.tape, hb.output, hb.size, fun k hk _ => hb.block k hk⟩
theorem Stored.below {b B : Nat} {x : OpR} {w w' : World} (h : Stored b x w w') (hB : B ≤ b) (hw : b < w.heap.size) : Below B w w' :=
  ⟨h.os, h.tape, h.output, h.size, fun k hk => h.block k (by omega) (by omega)⟩
theorem stored_set {b i : Nat} {x y : OpR} {w w1 w2 : World} {v : Value} (h : OpAt w b x) (hb : Below w.heap.size w w1) (hy : x.cells.setIfInBounds i v = y.cells) (hw : w1.setCell ⟨b, i, none⟩ v = w2) : Stored b y w w2 := by
  subst hw
  refine ⟨?_, hb.os, hb.tape, hb.output, ?_, fun k hk hne => ?_⟩
  · unfold OpAt
    have h1 : w1.heap[b]? = some (.cells x.cells 30 (0, 0)) := h.below hb
    rw [Go.Joins.block_setCell h1, hy]
  · have := hb.size
    simpa using this
  · rw [Go.heap_setCell_other _ _ _ _ hne]
    exact hb.block k hk
theorem set_num (x : OpR) (i : Nat) (h0 : 1 ≤ i) (h5 : i ≤ 5) (v : Int) : x.cells.setIfInBounds i (.int .i64 v) = (x.setNum i v).cells := by
  rcases (show i = 1 ∨ i = 2 ∨ i = 3 ∨ i = 4 ∨ i = 5 by omega) with rfl | rfl | rfl | rfl | rfl <;> rfl
theorem set_txt (x : OpR) (i : Nat) (h : i = 6 ∨ i = 7) (v : ByteArray) : x.cells.setIfInBounds i (.string v) = (x.setTxt i v).cells := by
  rcases h with rfl | rfl <;> rfl
theorem num_cell (x : OpR) (i : Nat) (h0 : 1 ≤ i) (h5 : i ≤ 5) : x.cells[i]? = some (.int .i64 (x.num i)) := by
  rcases (show i = 1 ∨ i = 2 ∨ i = 3 ∨ i = 4 ∨ i = 5 by omega) with rfl | rfl | rfl | rfl | rfl <;> rfl
theorem txt_cell (x : OpR) (i : Nat) (h : i = 6 ∨ i = 7) : x.cells[i]? = some (.string (x.text i)) := by
  rcases h with rfl | rfl <;> rfl

theorem prefix_any (s : ByteArray) (w : World) : ∃ (is : Bool) (R : ByteArray), (Calls Tryd.prog 124 #[.string s, .string ⟨#[32]⟩] w fun e w' => e = .returned (.tuple #[.string R, .bool is]) ∧ w = w') ∧ R.size ≤ s.size ∧
    ((is = true ∧ s.data.toList = 32 :: R.data.toList) ∨ (is = false ∧ numM s.data.toList = none ∧ txtM s.data.toList = none)) := by
  have h := Tryd.strings_CutPrefix s ⟨#[32]⟩ w
  have e : (⟨#[32]⟩ : ByteArray).data.toList = [32] := rfl
  rw [e] at h
  have hsz : s.data.toList.length = s.size := by simp
  refine ⟨Lib.hasPrefix s.data.toList [32], ⟨(Lib.trimPrefix s.data.toList [32]).toArray⟩, h.mono fun e w' h => ⟨h.1, h.2.symm⟩, ?_, ?_⟩
  · show (Lib.trimPrefix s.data.toList [32]).length ≤ _
    unfold Lib.trimPrefix
    split
    · rw [List.length_drop]; omega
    · omega
  · cases hl : s.data.toList with
    | nil => exact .inr ⟨rfl, rfl, rfl⟩
    | cons c t =>
      by_cases hc : c = 32
      · subst hc
        exact .inl ⟨by simp [Lib.hasPrefix], by simp [Lib.trimPrefix, Lib.hasPrefix]⟩
      · refine .inr ⟨?_, by simp [numM, hc], by simp [txtM, hc]⟩
        simp [Lib.hasPrefix, List.isPrefixOf]
        exact fun h => hc h.symm
/-- Where the first blank stands. -/
theorem blank_any (s : ByteArray) (w : World) : ∃ J : Int, (Calls Tryd.prog 119 #[.string s, .int .u8 32] w fun e w' => e = .returned (.int .i64 J) ∧ w = w') ∧
    (J = ((s.data.toList.takeWhile nb).length : Int) ∨ (J = -1 ∧ s.data.toList.takeWhile nb = s.data.toList)) := by
  have h := Tryd.strings_IndexByte s 32 w
  have e : ((32 : Int)).toNat.toUInt8 = 32 := rfl
  rw [e] at h
  refine ⟨_, h.mono fun e w' h => ⟨h.1, h.2.symm⟩, ?_⟩
  rw [indexByte_index]
  have hi := index_blank s.data.toList
  have hge := Lib.index_ge s.data.toList [32]
  by_cases h0 : 0 ≤ Lib.index s.data.toList [32]
  · have := hi.2 h0
    exact .inl (by omega)
  · exact .inr ⟨by omega, takeWhile_all _ (fun hh => h0 (hi.1.2 hh))⟩

def NumPost (b i : Nat) (x : OpR) (l : List UInt8) (w : World) (e : Ending) (w' : World) : Prop :=
  match numM l with
  | some (v, r) => e = .returned (.tuple #[.string ⟨r.toArray⟩, .bool true]) ∧ Stored b (x.setNum i v) w w'
  | none => e = .returned (.tuple #[.string ⟨#[]⟩, .bool false]) ∧ Stored b x w w'

set_option maxHeartbeats 4000000 in
set_option maxRecDepth 100000 in
theorem number_any (s : ByteArray) (hs : s.size ≤ 1000000) (b i : Nat) (h0 : 1 ≤ i) (h5 : i ≤ 5) (x : OpR) (w : World) (hd : Door2 w) (hx : OpAt w b x) :
    Calls Tryd.prog 91 #[.string s, .pointer (some ⟨b, i, none⟩)] w (NumPost b i x s.data.toList w) := by
  obtain ⟨is, R, hcp, hRs, hcase⟩ := prefix_any s w
  obtain ⟨J, hix, hJ⟩ := blank_any R w
  obtain ⟨t, ht⟩ : ∃ t, R.data.toList = t := ⟨_, rfl⟩
  have hlen : t.length = R.size := by rw [← ht]; simp
  rw [ht] at hJ hcase
  have hR' : (R.size : Int) ≤ 1000000 := by omega
  obtain ⟨n, hn⟩ : ∃ n, (t.takeWhile nb).length = n := ⟨_, rfl⟩
  have hnR : n ≤ R.size := by
    rw [← hn, ← hlen]
    exact (List.takeWhile_sublist nb).length_le
  obtain ⟨D, hD⟩ : ∃ D : ByteArray, R.extract 0 n = D := ⟨_, rfl⟩
  have hDl : D.data.toList = t.takeWhile nb := by
    rw [← hD, Lib.extract_data, List.drop_zero, Nat.sub_zero, ht, ← hn]
    exact take_takeWhile t
  obtain ⟨E, hE⟩ : ∃ E : ByteArray, R.extract n R.size = E := ⟨_, rfl⟩
  have hEl : E.data.toList = t.dropWhile nb := by
    rw [← hE, extract_list, ht, ← hn]
    exact drop_takeWhile t
  have hDz : D.size ≤ 1000000 := by
    have : D.data.toList.length = D.size := by simp
    rw [hDl, hn] at this
    omega
  have HAT := Lib.hid (atoi_any D hDz w hd)
  rw [hDl] at HAT
  have HCP := Lib.hid hcp
  have HIX := Lib.hid hix
  have HITOA : Hid (∀ v w', -9223372036854775808 ≤ v → v ≤ 9223372036854775807 → Below w.heap.size w w' → Calls Tryd.prog 72 #[.int .i64 v] w' fun e w'' => e = .returned (.string ⟨(Lib.itoa v).toArray⟩) ∧ Below w.heap.size w w'') := fun v w' h1 h2 hb => (itoa_any v h1 h2 w' (hd.toDoor.below hb)).mono fun e w'' h => ⟨h.1, hb.trans (h.2.mono hb.size)⟩
  have hn0 : (0 : Int) ≤ n := by omega
  have hnR' : (n : Int) ≤ R.size := by omega
  have HX := Lib.hid hx
  have HDL := Lib.hid hDl
  have HEL := Lib.hid hEl
  have HCASE := Lib.hid hcase
  have HRN := Lib.hid hn
  have HTL := Lib.hid hlen
  obtain ⟨l, hl⟩ : ∃ l, s.data.toList = l := ⟨_, rfl⟩
  rw [hl] at HCASE ⊢
  clear hcp hix hd hx hDl hEl hcase hlen hl hs ht hn hRs hDz
  have HNONE : Hid (numM l = none → ∀ w', Below w.heap.size w w' → NumPost b i x l w (.returned (.tuple #[.string ⟨#[]⟩, .bool false])) w') := Lib.hid (fun h w' hb => by
    unfold NumPost
    rw [h]
    exact ⟨rfl, Stored.of_below HX.out hb⟩)
  have HSOME : Hid (∀ v, numM l = some (v, t.dropWhile nb) → ∀ w1 w2, Below w.heap.size w w1 → w1.setCell ⟨b, i, none⟩ (.int .i64 v) = w2 → NumPost b i x l w (.returned (.tuple #[.string E, .bool true])) w2) := Lib.hid (fun v h w1 w2 hb hw => by
    unfold NumPost
    rw [h]
    refine ⟨?_, stored_set HX.out hb (set_num x i h0 h5 v) hw⟩
    have : E = ⟨(t.dropWhile nb).toArray⟩ := by
      apply ByteArray.ext
      rw [← Array.toList_inj, HEL.out]
    rw [this])
  have HCELL : Hid (∀ w', Below w.heap.size w w' → w'.cell? ⟨b, i, none⟩ = some (.int .i64 (x.num i)) ∧ w'.frozen? ⟨b, i, none⟩ = false) := Lib.hid (fun w' hb => by
    have h : w'.heap[b]? = some (.cells x.cells 30 (0, 0)) := HX.out.below hb
    exact ⟨by rw [Lib.cell_of_heap h]; exact num_cell x i h0 h5, Lib.frozen_of_heap h i⟩)
  rw [HRN.out] at hJ
  rcases hJ with rfl | ⟨rfl, hall⟩
  · clear h0 h5
    go_enter Tryd.func91, Tryd.ntmps91
    go_wp2_with fail
    refine HCP.out.mono ?_
    rintro e w' ⟨rfl, rfl⟩
    go_wp2_with fail
    refine HIX.out.mono ?_
    rintro e w' ⟨rfl, rfl⟩
    cases hat : Lib.atoiAll (t.takeWhile nb) with
    | ok v =>
      rw [hat] at HAT
      simp only at HAT
      have hvr := atoi_range hat
      have HIT := Lib.hid (fun w' => HITOA.out v w' hvr.1 hvr.2)
      go_wp2_with fail
      refine HAT.out.mono ?_
      rintro e w1 ⟨rfl, hb1⟩
      have HB1 := Lib.hid hb1
      clear hb1 HITOA hvr
      cases is with
      | false =>
        have HN := Lib.hid (HNONE.out (by
          rcases HCASE.out with ⟨h, _⟩ | ⟨_, h, _⟩
          · cases h
          · exact h))
        clear hat
        go_wp2_with fail
        go_quiet (fail)
        go_wp2_with fail
        go_ret2
        exact HN.out _ (below_drawn HB1.out _)
      | true =>
        have HLT : Hid (l = 32 :: t) := Lib.hid (by
          rcases HCASE.out with ⟨_, h⟩ | ⟨h, _⟩
          · exact h
          · cases h)
        by_cases hit : Lib.itoa v = t.takeWhile nb
        · have HS := Lib.hid (HSOME.out v (by rw [HLT.out]; simp only [numM, hat, if_pos, hit]))
          have hitd : (⟨(Lib.itoa v).toArray⟩ : ByteArray) = D := by
            apply ByteArray.ext
            rw [← Array.toList_inj, HDL.out, hit]
          rw [hitd] at HIT
          clear hat hit hitd
          go_wp2_with fail
          go_region_held3 (fun w' => AnyW w') (exact anyW _) (first | (go_at_call 72; refine (HIT.out _ ?_).mono ?_; (first | exact HB1.out.drew | exact HB1.out | assumption); rintro e w' ⟨rfl, hq⟩))
          all_goals
            obtain ⟨hc, hf⟩ := HCELL.out _ hq
            have HQ := Lib.hid hq
            clear hq
            go_wp2_with fail
            go_ret2
            exact HS.out _ _ HQ.out rfl
        · have HN := Lib.hid (HNONE.out (by rw [HLT.out]; simp only [numM, hat, if_pos, hit, if_false]))
          have hne : ((⟨(Lib.itoa v).toArray⟩ : ByteArray).toList == D.toList) = false := by
            rw [ByteArray.toList_eq, ByteArray.toList_eq, HDL.out]
            simpa using hit
          obtain ⟨IT, hIT⟩ : ∃ IT : ByteArray, ⟨(Lib.itoa v).toArray⟩ = IT := ⟨_, rfl⟩
          rw [hIT] at HIT hne
          clear hat hit hIT
          go_wp2_with fail
          go_region_held3 (fun w' => AnyW w') (exact anyW _) (first | (go_at_call 72; refine (HIT.out _ ?_).mono ?_; (first | exact HB1.out.drew | exact HB1.out | assumption); rintro e w' ⟨rfl, hq⟩))
          all_goals
            have HQ := Lib.hid hq
            clear hq
            go_wp2_with fail
            go_ret2
            exact HN.out _ HQ.out
    | _ =>
      rw [hat] at HAT
      simp only at HAT
      have HN := Lib.hid (HNONE.out (by
        rcases HCASE.out with ⟨_, h⟩ | ⟨_, h, _⟩
        · rw [h]; simp only [numM, hat, if_pos]
        · exact h))
      clear hat HITOA
      go_wp2_with fail
      refine HAT.out.mono ?_
      rintro e w1 ⟨⟨v, tp, p, rfl⟩, hb1⟩
      have HB1 := Lib.hid hb1
      clear hb1
      cases is with
      | false =>
        go_wp2_with fail
        go_quiet (fail)
        go_wp2_with fail
        go_ret2
        exact HN.out _ (below_drawn HB1.out _)
      | true =>
        go_wp2_with fail
        go_quiet (fail)
        go_wp2_with fail
        go_ret2
        exact HN.out _ (below_drawn HB1.out _)
  · clear h0 h5
    have hnz : n = R.size := by rw [← HRN.out, hall, HTL.out]
    subst hnz
    have hDR : D = R := by
      rw [← hD]
      apply ByteArray.ext
      rw [← Array.toList_inj, Lib.extract_data, List.drop_zero, List.take_of_length_le (by simp)]
    subst hDR
    have hEE : E = ByteArray.empty := by
      rw [← hE]
      apply ByteArray.ext
      rw [← Array.toList_inj, Lib.extract_data]
      simp
    subst hEE
    clear hall hn0 hnR hnR' hD hE
    go_enter Tryd.func91, Tryd.ntmps91
    go_wp2_with fail
    refine HCP.out.mono ?_
    rintro e w' ⟨rfl, rfl⟩
    go_wp2_with fail
    refine HIX.out.mono ?_
    rintro e w' ⟨rfl, rfl⟩
    cases hat : Lib.atoiAll (t.takeWhile nb) with
    | ok v =>
      rw [hat] at HAT
      simp only at HAT
      have hvr := atoi_range hat
      have HIT := Lib.hid (fun w' => HITOA.out v w' hvr.1 hvr.2)
      go_wp2_with fail
      refine HAT.out.mono ?_
      rintro e w1 ⟨rfl, hb1⟩
      have HB1 := Lib.hid hb1
      clear hb1 HITOA hvr
      cases is with
      | false =>
        have HN := Lib.hid (HNONE.out (by
          rcases HCASE.out with ⟨h, _⟩ | ⟨_, h, _⟩
          · cases h
          · exact h))
        clear hat
        go_wp2_with fail
        go_quiet (fail)
        go_wp2_with fail
        go_ret2
        exact HN.out _ (below_drawn HB1.out _)
      | true =>
        have HLT : Hid (l = 32 :: t) := Lib.hid (by
          rcases HCASE.out with ⟨_, h⟩ | ⟨h, _⟩
          · exact h
          · cases h)
        by_cases hit : Lib.itoa v = t.takeWhile nb
        · have HS := Lib.hid (HSOME.out v (by rw [HLT.out]; simp only [numM, hat, if_pos, hit]))
          have hitd : (⟨(Lib.itoa v).toArray⟩ : ByteArray) = D := by
            apply ByteArray.ext
            rw [← Array.toList_inj, HDL.out, hit]
          rw [hitd] at HIT
          clear hat hit hitd
          go_wp2_with fail
          go_region_held3 (fun w' => AnyW w') (exact anyW _) (first | (go_at_call 72; refine (HIT.out _ ?_).mono ?_; (first | exact HB1.out.drew | exact HB1.out | assumption); rintro e w' ⟨rfl, hq⟩))
          all_goals
            obtain ⟨hc, hf⟩ := HCELL.out _ hq
            have HQ := Lib.hid hq
            clear hq
            go_wp2_with fail
            go_ret2
            exact HS.out _ _ HQ.out rfl
        · have HN := Lib.hid (HNONE.out (by rw [HLT.out]; simp only [numM, hat, if_pos, hit, if_false]))
          have hne : ((⟨(Lib.itoa v).toArray⟩ : ByteArray).toList == D.toList) = false := by
            rw [ByteArray.toList_eq, ByteArray.toList_eq, HDL.out]
            simpa using hit
          obtain ⟨IT, hIT⟩ : ∃ IT : ByteArray, ⟨(Lib.itoa v).toArray⟩ = IT := ⟨_, rfl⟩
          rw [hIT] at HIT hne
          clear hat hit hIT
          go_wp2_with fail
          go_region_held3 (fun w' => AnyW w') (exact anyW _) (first | (go_at_call 72; refine (HIT.out _ ?_).mono ?_; (first | exact HB1.out.drew | exact HB1.out | assumption); rintro e w' ⟨rfl, hq⟩))
          all_goals
            have HQ := Lib.hid hq
            clear hq
            go_wp2_with fail
            go_ret2
            exact HN.out _ HQ.out
    | _ =>
      rw [hat] at HAT
      simp only at HAT
      have HN := Lib.hid (HNONE.out (by
        rcases HCASE.out with ⟨_, h⟩ | ⟨_, h, _⟩
        · rw [h]; simp only [numM, hat, if_pos]
        · exact h))
      clear hat HITOA
      go_wp2_with fail
      refine HAT.out.mono ?_
      rintro e w1 ⟨⟨v, tp, p, rfl⟩, hb1⟩
      have HB1 := Lib.hid hb1
      clear hb1
      cases is with
      | false =>
        go_wp2_with fail
        go_quiet (fail)
        go_wp2_with fail
        go_ret2
        exact HN.out _ (below_drawn HB1.out _)
      | true =>
        go_wp2_with fail
        go_quiet (fail)
        go_wp2_with fail
        go_ret2
        exact HN.out _ (below_drawn HB1.out _)
end Go.Proofs.YtmeneoanmfpecaaDoor
