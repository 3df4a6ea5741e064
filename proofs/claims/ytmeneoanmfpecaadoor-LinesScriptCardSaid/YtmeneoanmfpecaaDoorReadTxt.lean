/- package lines: a text behind a blank, put into an operation. -/
import Derived.Test.YtmeneoanmfpecaaDoorReadNum
namespace Go.Proofs.YtmeneoanmfpecaaDoor
set_option linter.unusedVariables false
set_option linter.unusedSimpArgs false
open Go.RowKit

def TxtPost (b i : Nat) (x : OpR) (l : List UInt8) (w : World) (e : Ending) (w' : World) : Prop :=
  match txtM l with
  | some (v, r) => e = .returned (.tuple #[.string ⟨r.toArray⟩, .bool true]) ∧ Stored b (x.setTxt i ⟨v.toArray⟩) w w'
  | none => e = .returned (.tuple #[.string ⟨#[]⟩, .bool false]) ∧ Stored b x w w'

set_option maxHeartbeats 4000000 in
set_option maxRecDepth 100000 in
theorem quoted_any (s : ByteArray) (hs : s.size ≤ 1000000) (b i : Nat) (hi67 : i = 6 ∨ i = 7) (x : OpR) (w : World) (hx : OpAt w b x) :
    Calls Tryd.prog 92 #[.string s, .pointer (some ⟨b, i, none⟩)] w (TxtPost b i x s.data.toList w) := by
  obtain ⟨is, R, hcp, hRs, hcase⟩ := prefix_any s w
  obtain ⟨t, ht⟩ : ∃ t, R.data.toList = t := ⟨_, rfl⟩
  have hlen : t.length = R.size := by rw [← ht]; simp
  rw [ht] at hcase
  have hR' : (R.size : Int) ≤ 1000000 := by omega
  have huq := unquote_any R (by omega) w
  rw [ht] at huq
  obtain ⟨y, k, er, hu⟩ : ∃ y k er, unquoteM t = (y, k, er) := ⟨_, _, _, rfl⟩
  rw [hu] at huq
  simp only [unqV] at huq
  obtain ⟨V, hV⟩ : ∃ V : ByteArray, ⟨y.toArray⟩ = V := ⟨_, rfl⟩
  rw [hV] at huq
  have HU := Lib.hid huq
  have HUT := Lib.hid hu
  have HCP := Lib.hid hcp
  have HX := Lib.hid hx
  have HCASE := Lib.hid hcase
  have HV := Lib.hid hV
  have HEX : Hid (∀ n, (R.extract n R.size).data.toList = t.drop n) := Lib.hid (fun n => by rw [extract_list, ht])
  obtain ⟨l, hl⟩ : ∃ l, s.data.toList = l := ⟨_, rfl⟩
  rw [hl] at HCASE ⊢
  have HTL := Lib.hid hlen
  clear hcp hx hcase hlen hl hs ht hRs huq hu hV
  have HNONE : Hid (txtM l = none → ∀ w', Below w.heap.size w w' → TxtPost b i x l w (.returned (.tuple #[.string ⟨#[]⟩, .bool false])) w') := Lib.hid (fun h w' hb => by
    unfold TxtPost
    rw [h]
    exact ⟨rfl, Stored.of_below HX.out hb⟩)
  have HSOME : Hid (∀ E : ByteArray, E.data.toList = t.drop k → txtM l = some (y, t.drop k) → ∀ w1 w2, Below w.heap.size w w1 → w1.setCell ⟨b, i, none⟩ (.string V) = w2 → TxtPost b i x l w (.returned (.tuple #[.string E, .bool true])) w2) := Lib.hid (fun E hE h w1 w2 hb hw => by
    unfold TxtPost
    rw [h]
    refine ⟨?_, stored_set HX.out hb (by rw [set_txt x i hi67, HV.out]) hw⟩
    have : E = ⟨(t.drop k).toArray⟩ := by
      apply ByteArray.ext
      rw [← Array.toList_inj, hE]
    rw [this])
  have HCELL : Hid (∀ w', Below w.heap.size w w' → w'.cell? ⟨b, i, none⟩ = some (.string (x.text i)) ∧ w'.frozen? ⟨b, i, none⟩ = false) := Lib.hid (fun w' hb => by
    have h : w'.heap[b]? = some (.cells x.cells 30 (0, 0)) := HX.out.below hb
    exact ⟨by rw [Lib.cell_of_heap h]; exact txt_cell x i hi67, Lib.frozen_of_heap h i⟩)
  clear hi67
  go_enter Tryd.func92, Tryd.ntmps92
  go_wp2_with fail
  refine HCP.out.mono ?_
  rintro e w' ⟨rfl, rfl⟩
  go_wp2_with fail
  refine HU.out.mono ?_
  rintro e w1 ⟨rfl, hb1⟩
  have HB1 := Lib.hid hb1
  clear hb1
  cases is with
  | false =>
    have HN := Lib.hid (HNONE.out (by
      rcases HCASE.out with ⟨h, _⟩ | ⟨_, _, h⟩
      · cases h
      · exact h))
    go_wp2_with fail
    go_ret2
    exact HN.out _ HB1.out
  | true =>
    have HLT : Hid (l = 32 :: t) := Lib.hid (by
      rcases HCASE.out with ⟨_, h⟩ | ⟨h, _⟩
      · exact h
      · cases h)
    by_cases her : er = 0
    · subst her
      have HS := Lib.hid (fun E hE => HSOME.out E hE (by rw [HLT.out]; simp only [txtM, HUT.out, if_pos]))
      have hk : k ≤ R.size := by
        obtain ⟨r, h1, h2⟩ := unquote_back HUT.out
        have h3 := congrArg List.length h1
        rw [List.length_append] at h3
        have := HTL.out
        omega
      have hk' : (k : Int) ≤ R.size := by omega
      have hk0 : (0 : Int) ≤ k := by omega
      obtain ⟨E, hE⟩ : ∃ E : ByteArray, R.extract k R.size = E := ⟨_, rfl⟩
      have HSE := Lib.hid (HS.out E (by rw [← hE]; exact HEX.out k))
      obtain ⟨hc, hf⟩ := HCELL.out _ HB1.out
      go_wp2_with fail
      go_ret2
      exact HSE.out _ _ HB1.out rfl
    · have HN := Lib.hid (HNONE.out (by rw [HLT.out]; simp only [txtM, HUT.out, if_pos, her, if_false]))
      have her2 : (er != 0) = true := by simpa using her
      clear her
      go_wp2_with fail
      go_ret2
      exact HN.out _ HB1.out
end Go.Proofs.YtmeneoanmfpecaaDoor
