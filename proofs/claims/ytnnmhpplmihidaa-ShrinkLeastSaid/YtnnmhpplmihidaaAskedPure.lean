/- The document's Asked, beside Least with the question whether all that is needed is there. -/
import Derived.Test.YtnnmhpplmihidaaQuest43
import Derived.Test.YtnnmhpplmihidaaPShrinkLeastx2
namespace Go.Proofs.Ytnnmhpplmihidaa
set_option linter.unusedVariables false
open PShrinkLeast Go.RowKit Go.Proofs.YtnnmhpplmihidaaW.PrintWords

theorem w64 (x : Int) (h0 : -9223372036854775808 ≤ x) (h1 : x < 9223372036854775808) : wrap64 x = x := by unfold wrap64; omega

theorem nodup_mid {A B : List Int} {x : Int} (h : (A ++ x :: B).Nodup) : x ∉ A ++ B ∧ (A ++ B).Nodup := by
  obtain ⟨h1, h2, h3⟩ := List.nodup_append.1 h
  obtain ⟨h4, h5⟩ := List.nodup_cons.1 h2
  refine ⟨fun hx => ?_, List.nodup_append.2 ⟨h1, h5, fun a ha b hb => h3 a ha b (List.mem_cons_of_mem _ hb)⟩⟩
  rcases List.mem_append.1 hx with hx | hx
  · exact h3 x hx x (by simp) rfl
  · exact h4 hx

/-- What is left is places, each once, and all that are needed among them. -/
structure Left (need : List Bool) (out : List Int) : Prop where
  nodup : out.Nodup
  range : ∀ x ∈ out, 0 ≤ x ∧ x < need.length
  all : ∀ i : Nat, i < need.length → need.getD i false = true → (i : Int) ∈ out

theorem Left.ask {need : List Bool} {out : List Int} (h : Left need out) {i : Nat} (hi : i < out.length) :
    needK need (out.take i ++ out.drop (i + 1)) = !(rdOf false need (rd out i)) ∧ (rdOf false need (rd out i) = false → Left need (out.take i ++ out.drop (i + 1))) := by
  have hx : rd out i = out[i] := by simp [rd, hi]
  rw [hx]
  have hsplit : out = out.take i ++ out[i] :: out.drop (i + 1) := by rw [← List.drop_eq_getElem_cons hi, List.take_append_drop]
  have hnd := h.nodup
  rw [hsplit] at hnd
  have hnot : out[i] ∉ out.take i ++ out.drop (i + 1) := (nodup_mid hnd).1
  have hr := h.range _ (List.getElem_mem hi)
  obtain ⟨z, hz⟩ := Int.eq_ofNat_of_zero_le hr.1
  have hrd : rdOf false need out[i] = need.getD z false := by rw [hz]; simp [rdOf]
  have hmem : ∀ x ∈ out, x ≠ out[i] → x ∈ out.take i ++ out.drop (i + 1) := fun x hx hne => by
    rw [hsplit] at hx
    rcases List.mem_append.1 hx with h | h
    · exact List.mem_append_left _ h
    · rcases List.mem_cons.1 h with h | h
      · exact absurd h hne
      · exact List.mem_append_right _ h
  rw [hrd]
  cases hn : need.getD z false with
  | true =>
    refine ⟨?_, fun h => by cases h⟩
    have hzl : z < need.length := by rw [hz] at hr; omega
    refine needK_false hzl ?_ ?_
    · rw [List.getD_eq_getElem?_getD, List.getElem?_eq_getElem hzl] at hn
      exact hn
    · rw [← hz]
      simpa using hnot
  | false =>
    have hall : ∀ k : Nat, k < need.length → need.getD k false = true → (k : Int) ∈ out.take i ++ out.drop (i + 1) := fun k hk hkn => hmem _ (h.all k hk hkn) (fun e => by
      have : k = z := by omega
      subst this
      rw [hn] at hkn
      cases hkn)
    refine ⟨?_, fun _ => ⟨?_, ?_, hall⟩⟩
    · rw [needK]
      simp only [Bool.not_false]
      rw [List.all_eq_true]
      intro k hk
      have hk' := List.mem_range.1 hk
      cases hkn : need.getD k false with
      | true => rw [decide_eq_true (hall k hk' hkn)]; rfl
      | false => rfl
    · exact (nodup_mid hnd).2
    · intro x hx
      refine h.range x ?_
      rw [hsplit]
      rcases List.mem_append.1 hx with h | h
      · exact List.mem_append_left _ h
      · exact List.mem_append_right _ (List.mem_cons_of_mem _ h)

theorem take_drop_toNat (out : List Int) (i : Nat) : ([] ++ out.take ((i : Int)).toNat) ++ out.drop (((i + 1 : Nat) : Int)).toNat = out.take i ++ out.drop (i + 1) := by simp

/-- One pass. -/
theorem asked_pass {need : List Bool} (hnl : need.length ≤ 1000) (R : List Int × Int) : ∀ (d : Nat) (out : List Int) (i n : Nat) (less : Bool), out.length = i + d → out.length ≤ 1000 → n ≤ 600 → Left need out →
    (∃ k0, ∀ k, k0 ≤ k → (if (leastPass (needK need) d out i n less).2.2 = true then hearsayref43_Asked.l1 k need (leastPass (needK need) d out i n less).1 ((leastPass (needK need) d out i n less).2.1 : Int) else some ((leastPass (needK need) d out i n less).1, ((leastPass (needK need) d out i n less).2.1 : Int))) = some R) →
    ∃ k0, ∀ k, k0 ≤ k → hearsayref43_Asked.l2 k need out (n : Int) less (i : Int) = some R
  | 0, out, i, n, less, hd, hl, hn, hL, ⟨k0, h⟩ => by
    refine ⟨k0 + 1, fun k hk => ?_⟩
    obtain ⟨k, rfl⟩ : ∃ m, k = m + 1 := ⟨k - 1, by omega⟩
    have := h k (by omega)
    simp only [hearsayref43_Asked.l2]
    rw [if_neg (by omega)]
    exact this
  | d + 1, out, i, n, less, hd, hl, hn, hL, ⟨k0, h⟩ => by
    have hi : i < out.length := by omega
    obtain ⟨hk1, hk2⟩ := hL.ask hi
    have hx : rd out i = out[i] := by simp [rd, hi]
    have hr := hL.range _ (List.getElem_mem hi)
    rw [← hx] at hr
    rw [leastPass_succ'] at h
    have hw1 : wrap64 ((i : Int) + 1) = ((i + 1 : Nat) : Int) := by rw [w64 _ (by omega) (by omega)]; omega
    have hw2 : wrap64 ((n : Int) + 1) = ((n + 1 : Nat) : Int) := by rw [w64 _ (by omega) (by omega)]; omega
    by_cases h6 : n ≥ 600
    · have ha : askB (needK need) n (out.take i ++ out.drop (i + 1)) = false := by unfold askB; rw [decide_eq_false (by omega)]; rfl
      have hb : askN n = n := by unfold askN; rw [if_neg (by omega)]
      rw [if_neg (by rw [ha]; simp), hb] at h
      obtain ⟨k1, h1⟩ := asked_pass hnl R d out (i + 1) n less (by omega) hl hn hL ⟨k0, h⟩
      refine ⟨k1 + 1, fun k hk => ?_⟩
      obtain ⟨k, rfl⟩ : ∃ m, k = m + 1 := ⟨k - 1, by omega⟩
      simp only [hearsayref43_Asked.l2]
      rw [if_pos (by omega), if_pos (by omega), hw1]
      exact h1 k (by omega)
    · have hb : askN n = n + 1 := by unfold askN; rw [if_pos (by omega)]
      cases hv : rdOf false need (rd out i) with
      | true =>
        have ha : askB (needK need) n (out.take i ++ out.drop (i + 1)) = false := by unfold askB; rw [hk1, hv]; simp
        rw [if_neg (by rw [ha]; simp), hb] at h
        obtain ⟨k1, h1⟩ := asked_pass hnl R d out (i + 1) (n + 1) less (by omega) hl (by omega) hL ⟨k0, h⟩
        refine ⟨k1 + 1, fun k hk => ?_⟩
        obtain ⟨k, rfl⟩ : ∃ m, k = m + 1 := ⟨k - 1, by omega⟩
        simp only [hearsayref43_Asked.l2]
        rw [if_pos (by omega), if_neg (by omega), if_pos (by omega), if_pos hr.1, if_pos hr.2, if_pos hv, hw1, hw2]
        exact h1 k (by omega)
      | false =>
        have ha : askB (needK need) n (out.take i ++ out.drop (i + 1)) = true := by unfold askB; rw [hk1, hv, decide_eq_true (by omega)]; rfl
        rw [if_pos ha, hb] at h
        have hlen : (out.take i ++ out.drop (i + 1)).length = i + d := by simp; omega
        obtain ⟨k1, h1⟩ := asked_pass hnl R d (out.take i ++ out.drop (i + 1)) i (n + 1) true hlen (by omega) (by omega) (hk2 hv) ⟨k0, h⟩
        refine ⟨k1 + 1, fun k hk => ?_⟩
        obtain ⟨k, rfl⟩ : ∃ m, k = m + 1 := ⟨k - 1, by omega⟩
        simp only [hearsayref43_Asked.l2]
        rw [if_pos (by omega), if_neg (by omega), if_pos (by omega), if_pos hr.1, if_pos hr.2, if_neg (by rw [hv]; simp), hw1, hw2]
        simp only [Option.bind_some]
        have e1 : ([] ++ out.take ((i : Int)).toNat : List Int).length ≤ 1000 := by simp; omega
        have e2 : (out.drop (((i + 1 : Nat) : Int)).toNat).length ≤ 1000 := by simp; omega
        rw [if_pos (by omega), if_pos (by simp; omega), if_pos (by omega), if_pos (by omega), if_pos (by omega), take_drop_toNat]
        exact h1 k (by omega)

theorem asked_all {need : List Bool} (hnl : need.length ≤ 1000) : ∀ (f : Nat) (out : List Int) (n : Nat), out.length < f → out.length ≤ 1000 → n ≤ 600 → Left need out →
    ∃ k0, ∀ k, k0 ≤ k → hearsayref43_Asked.l1 k need out (n : Int) = some ((leastAll (needK need) f out n).1, ((leastAll (needK need) f out n).2 : Int))
  | 0, out, n, hf, _, _, _ => by omega
  | f + 1, out, n, hf, hl, hn, hL => by
    obtain ⟨k1, h1⟩ : ∃ k0, ∀ k, k0 ≤ k → hearsayref43_Asked.l2 k need out (n : Int) false ((0 : Nat) : Int) = some ((leastAll (needK need) (f + 1) out n).1, ((leastAll (needK need) (f + 1) out n).2 : Int)) := by
      refine asked_pass hnl _ out.length out 0 n false (by omega) hl hn hL ?_
      simp only [leastAll]
      by_cases hless : (leastPass (needK need) out.length out 0 n false).2.2 = true
      · simp only [if_pos hless]
        have hlen := (leastPass_len (needK need) out.length out 0 n false (by omega)).2 hless
        have hlen2 := (leastPass_len (needK need) out.length out 0 n false (by omega)).1
        have hlt : (leastPass (needK need) out.length out 0 n false).1.length < out.length := by
          rcases hlen with h | h
          · cases h
          · exact h
        exact asked_all hnl f _ _ (by omega) (by omega) (leastPass_n _ _ _ _ _ _ hn) (left_pass out.length out 0 n false (by omega) hL)
      · simp only [if_neg hless]
        exact ⟨0, fun k _ => trivial⟩
    refine ⟨k1 + 1, fun k hk => ?_⟩
    obtain ⟨k, rfl⟩ : ∃ m, k = m + 1 := ⟨k - 1, by omega⟩
    simp only [hearsayref43_Asked.l1]
    exact h1 k (by omega)
where
  left_pass {need : List Bool} : ∀ (d : Nat) (out : List Int) (i n : Nat) (less : Bool), out.length = i + d → Left need out → Left need (leastPass (needK need) d out i n less).1
    | 0, out, i, n, less, _, h => h
    | d + 1, out, i, n, less, hd, h => by
      have hi : i < out.length := by omega
      obtain ⟨hk1, hk2⟩ := h.ask hi
      unfold leastPass
      split
      · rename_i ha
        refine left_pass d _ i _ true (by simp; omega) (hk2 ?_)
        unfold askB at ha
        rw [hk1] at ha
        cases hv : rdOf false need (rd out i) with
        | true => rw [hv] at ha; simp at ha
        | false => rfl
      · exact left_pass d out (i + 1) _ less (by omega) h

def placesTo (n : Nat) : List Int := (List.range n).map (fun i : Nat => (i : Int))
theorem placesTo_length (n : Nat) : (placesTo n).length = n := by simp [placesTo]
theorem placesTo_succ (n : Nat) : placesTo (n + 1) = placesTo n ++ [(n : Int)] := by simp [placesTo, List.range_succ]

theorem left_start (need : List Bool) : Left need (placesTo need.length) where
  nodup := by
    unfold placesTo
    refine List.Pairwise.map _ ?_ List.nodup_range
    intro a b h h2
    exact h (by omega)
  range x hx := by
    simp [placesTo] at hx
    obtain ⟨a, ha, rfl⟩ := hx
    omega
  all i hi _ := by
    simp only [placesTo, List.mem_map, List.mem_range]
    exact ⟨i, hi, rfl⟩

theorem needK_start (need : List Bool) : needK need (placesTo need.length) = true := by
  rw [needK, List.all_eq_true]
  intro i hi
  rw [decide_eq_true (by simp only [placesTo, List.mem_map]; exact ⟨i, hi, rfl⟩)]
  simp

theorem asked_start {need : List Bool} (hnl : need.length ≤ 1000) : ∀ (d j : Nat), j + d = need.length → ∃ k0, ∀ k, k0 ≤ k → hearsayref43_Asked.l0 k need (placesTo j) (j : Int) = some ((leastOf (needK need) (placesTo need.length)).1, ((leastOf (needK need) (placesTo need.length)).2 : Int))
  | 0, j, hj => by
    obtain ⟨k0, h⟩ := asked_all hnl ((placesTo need.length).length + 1) (placesTo need.length) 1 (by omega) (by rw [placesTo_length]; omega) (by omega) (left_start need)
    refine ⟨k0 + 1, fun k hk => ?_⟩
    obtain ⟨k, rfl⟩ : ∃ m, k = m + 1 := ⟨k - 1, by omega⟩
    obtain rfl : j = need.length := by omega
    simp only [hearsayref43_Asked.l0]
    rw [if_neg (by omega), leastOf, if_pos (needK_start need)]
    exact h k (by omega)
  | d + 1, j, hj => by
    obtain ⟨k0, h⟩ := asked_start hnl d (j + 1) (by omega)
    refine ⟨k0 + 1, fun k hk => ?_⟩
    obtain ⟨k, rfl⟩ : ∃ m, k = m + 1 := ⟨k - 1, by omega⟩
    simp only [hearsayref43_Asked.l0]
    rw [if_pos (by omega), if_pos (by rw [placesTo_length]; omega), w64 _ (by omega) (by omega), ← placesTo_succ]
    exact h k (by omega)

theorem asked_f {need : List Bool} (hnl : need.length ≤ 1000) : ∃ k, hearsayref43_Asked.f k need = some ((leastOf (needK need) (placesTo need.length)).1, ((leastOf (needK need) (placesTo need.length)).2 : Int)) := by
  obtain ⟨k0, h⟩ := asked_start hnl need.length 0 (by omega)
  exact ⟨k0, h k0 (Nat.le_refl _)⟩
end Go.Proofs.Ytnnmhpplmihidaa
