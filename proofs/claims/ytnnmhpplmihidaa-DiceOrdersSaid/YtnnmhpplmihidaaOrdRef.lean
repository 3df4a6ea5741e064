/- The reference's Order puts numbers in the order that the draw tells. -/
import Derived.Test.YtnnmhpplmihidaaSame09
import Derived.Test.YtnnmhpplmihidaaPicked
namespace Go.Proofs.Ytnnmhpplmihidaa
open Go.RowKit Go.Proofs.YtnnmhpplmihidaaW.PrintWords Go.Proofs.YtnnmhpplmihidaaW.PrintLast Go.Proofs.YtnnmhpplmihidaaW.PrintMore
open PDiceOrders

/-- The places that are not gone. -/
def remL : List Bool → Nat → List Int
  | [], _ => []
  | true :: g, i => remL g (i + 1)
  | false :: g, i => (i : Int) :: remL g (i + 1)

theorem remL_replicate : ∀ (n i : Nat), remL (List.replicate n false) i = (List.range' i n).map fun j : Nat => (j : Int)
  | 0, _ => rfl
  | n + 1, i => by simp [List.replicate_succ, remL, remL_replicate n (i + 1), List.range'_succ]

theorem remL_iota (n : Nat) : remL (List.replicate n false) 0 = iota n := by
  rw [remL_replicate, iota, List.range_eq_range']

theorem remL_ge : ∀ (g : List Bool) (i : Nat) (x : Int), x ∈ remL g i → (i : Int) ≤ x ∧ x < i + g.length
  | [], _, _, h => by simp [remL] at h
  | true :: g, i, x, h => by
    have := remL_ge g (i + 1) x h
    simp; omega
  | false :: g, i, x, h => by
    simp only [remL, List.mem_cons] at h
    rcases h with rfl | h
    · simp; omega
    · have := remL_ge g (i + 1) x h
      simp; omega

theorem getD_mem {α : Type} (l : List α) (k : Nat) (d : α) (h : k < l.length) : l.getD k d ∈ l := by
  rw [List.getD_eq_getElem?_getD, List.getElem?_eq_getElem h]; exact List.getElem_mem h

theorem remL_erase : ∀ (g : List Bool) (i k : Nat), k < (remL g i).length → remL (g.set (((remL g i).getD k 0).toNat - i) true) i = (remL g i).eraseIdx k
  | [], _, _, h => by simp [remL] at h
  | true :: g, i, k, h => by
    simp only [remL] at h ⊢
    have h1 := remL_ge g (i + 1) _ (getD_mem _ k 0 h)
    have e : ((remL g (i + 1)).getD k 0).toNat - i = (((remL g (i + 1)).getD k 0).toNat - (i + 1)) + 1 := by omega
    rw [e, List.set_cons_succ]
    simp only [remL]
    exact remL_erase g (i + 1) k h
  | false :: g, i, 0, h => by simp [remL]
  | false :: g, i, k + 1, h => by
    simp only [remL, List.length_cons] at h ⊢
    have hk : k < (remL g (i + 1)).length := by omega
    have h1 := remL_ge g (i + 1) _ (getD_mem _ k 0 hk)
    have e : ((((i : Int) :: remL g (i + 1)).getD (k + 1) 0)).toNat - i = (((remL g (i + 1)).getD k 0).toNat - (i + 1)) + 1 := by
      rw [List.getD_cons_succ]; omega
    rw [e, List.set_cons_succ]
    simp only [remL, List.eraseIdx_cons_succ]
    rw [remL_erase g (i + 1) k hk]

/-- From some number of rounds on. -/
def Late {α : Type} (g : Nat → Option α) (r : α) : Prop := ∃ K, ∀ k, K ≤ k → g k = some r

theorem Late.step {α : Type} {g h : Nat → Option α} {r : α} (hs : ∀ k, g (k + 1) = h k) (hr : Late h r) : Late g r := by
  obtain ⟨K, hK⟩ := hr
  refine ⟨K + 1, fun k hk => ?_⟩
  obtain ⟨j, rfl⟩ : ∃ j, k = j + 1 := ⟨k - 1, by omega⟩
  rw [hs, hK j (by omega)]

theorem Late.stop {α : Type} {g : Nat → Option α} {r : α} (hs : ∀ k, g (k + 1) = some r) : Late g r :=
  ⟨1, fun k hk => by obtain ⟨j, rfl⟩ : ∃ j, k = j + 1 := ⟨k - 1, by omega⟩; exact hs j⟩

theorem wrap64_in' {i : Int} (h0 : -9223372036854775808 ≤ i) (h : i ≤ 9223372036854775807) : wrap64 i = i := by unfold wrap64; omega

theorem order_l1 (gone : List Bool) (out : List Int) (d left : Int) (hn : gone.length ≤ 1000) (ho : out.length ≤ 1000) (r : List Int) : ∀ (g pre : List Bool) (k : Nat), gone = pre ++ g → k < (remL g pre.length).length →
    Late (fun K => hearsayref09_Order.l0 K gone.length (out ++ [(remL g pre.length).getD k 0]) (gone.set ((remL g pre.length).getD k 0).toNat true) d (wrap64 (left - 1))) r →
    Late (fun K => hearsayref09_Order.l1 K gone.length out gone d left k pre.length) r
  | [], _, _, _, h, _ => by simp [remL] at h
  | b :: g, pre, k, hg, hk, hr => by
    have hi : pre.length < gone.length := by rw [hg]; simp
    have hrd : rdOf false gone (pre.length : Int) = b := by rw [hg]; simp [rdOf]
    have hw : wrap64 ((pre.length : Int) + 1) = ((pre ++ [b]).length : Nat) := by rw [wrap64_in' (by omega) (by omega)]; simp
    cases b with
    | true =>
      refine Late.step (h := fun K => hearsayref09_Order.l1 K gone.length out gone d left k (pre ++ [true]).length) (fun K => ?_) ?_
      · simp only [hearsayref09_Order.l1]
        rw [if_pos (by omega), if_pos (by omega), if_pos (by omega), hrd, if_pos rfl, hw]
      · refine order_l1 gone out d left hn ho r g (pre ++ [true]) k (by simpa using hg) (by simpa [remL] using hk) ?_
        simpa [remL] using hr
    | false =>
      cases k with
      | zero =>
        refine Late.step (h := fun K => hearsayref09_Order.l0 K gone.length (out ++ [(remL (false :: g) pre.length).getD 0 0]) (gone.set ((remL (false :: g) pre.length).getD 0 0).toNat true) d (wrap64 (left - 1))) (fun K => ?_) hr
        simp only [hearsayref09_Order.l1]
        rw [if_pos (by omega), if_pos (by omega), if_pos (by omega), hrd, if_neg (by simp), if_pos (by simp), if_pos (by omega)]
        simp [remL]
      | succ k =>
        refine Late.step (h := fun K => hearsayref09_Order.l1 K gone.length out gone d left k (pre ++ [false]).length) (fun K => ?_) ?_
        · simp only [hearsayref09_Order.l1]
          have hkk : k + 1 ≤ gone.length := by
            have h1 := remL_len (false :: g) pre.length
            have h2 : (false :: g).length ≤ gone.length := by rw [hg]; simp
            omega
          rw [if_pos (by omega), if_pos (by omega), if_pos (by omega), hrd, if_neg (by simp), if_neg (by omega), hw, wrap64_in' (by omega) (by omega)]
          congr 1
          omega
        · refine order_l1 gone out d left hn ho r g (pre ++ [false]) k (by simpa using hg) (by simpa [remL] using hk) ?_
          simpa [remL] using hr
where
  remL_len : ∀ (g : List Bool) (i : Nat), (remL g i).length ≤ g.length
    | [], _ => by simp [remL]
    | true :: g, i => by have := remL_len g (i + 1); simp [remL]; omega
    | false :: g, i => by have := remL_len g (i + 1); simp [remL]; omega

theorem order_l0 : ∀ (m d : Nat) (gone : List Bool) (out : List Int), (remL gone 0).length = m → d < 18446744073709551616 → gone.length ≤ 1000 → out.length + m ≤ 1000 →
    Late (fun K => hearsayref09_Order.l0 K gone.length out gone d m) (out ++ ordN m d (remL gone 0))
  | 0, d, gone, out, hm, hd, hg, ho => Late.stop (fun K => by
      simp only [hearsayref09_Order.l0]
      rw [if_neg (by omega)]; simp [ordN])
  | m + 1, d, gone, out, hm, hd, hg, ho => by
    have hmod : d % (m + 1) < m + 1 := Nat.mod_lt _ (by omega)
    have hdiv : d / (m + 1) < 18446744073709551616 := Nat.lt_of_le_of_lt (Nat.div_le_self _ _) hd
    have hx := remL_erase gone 0 (d % (m + 1)) (by omega)
    rw [Nat.sub_zero] at hx
    have hw : wrap64 (((m + 1 : Nat) : Int) - 1) = (m : Nat) := by rw [wrap64_in' (by omega) (by omega)]; omega
    have hu : IntKind.u64.wrap ((m + 1 : Nat) : Int) = ((m + 1 : Nat) : Int) := by rw [wrap_u64_mod]; omega
    refine Late.step (h := fun K => hearsayref09_Order.l1 K gone.length out gone ((d / (m + 1) : Nat) : Int) ((m + 1 : Nat) : Int) ((d % (m + 1) : Nat) : Int) (([] : List Bool).length)) (fun K => ?_) ?_
    · simp only [hearsayref09_Order.l0]
      rw [if_pos (by omega), hu, if_neg (by omega)]
      have e1 : Int.tdiv (d : Int) ((m + 1 : Nat) : Int) = ((d / (m + 1) : Nat) : Int) := by simp [Int.ofNat_tdiv]
      have e2 : Int.tmod (d : Int) ((m + 1 : Nat) : Int) = ((d % (m + 1) : Nat) : Int) := by rw [Int.tmod_eq_emod_of_nonneg (by omega)]; simp
      have e3 : wrap64 ((d % (m + 1) : Nat) : Int) = ((d % (m + 1) : Nat) : Int) := by
        generalize d % (m + 1) = r at hmod
        exact wrap64_in' (by omega) (by omega)
      have e4 : IntKind.u64.wrap ((d / (m + 1) : Nat) : Int) = ((d / (m + 1) : Nat) : Int) := by
        generalize d / (m + 1) = r at hdiv
        rw [wrap_u64_mod]; omega
      rw [e1, e2, e3, e4]
      rfl
    · refine order_l1 gone out _ _ hg (by omega) _ gone [] (d % (m + 1)) rfl (by simpa [hm] using hmod) ?_
      rw [hw]
      have ih := order_l0 m (d / (m + 1)) (gone.set ((remL gone 0).getD (d % (m + 1)) 0).toNat true) (out ++ [(remL gone 0).getD (d % (m + 1)) 0]) (by rw [hx, List.length_eraseIdx, if_pos (by omega)]; omega) hdiv (by simpa using hg) (by simp; omega)
      rw [hx, List.length_set] at ih
      simpa [ordN] using ih

theorem order_f (d : Int) (n : Nat) (h1 : 1 ≤ n) (h2 : n ≤ 1000) : Late (fun K => hearsayref09_Order.f K d n) (ordI (IntKind.u64.wrap d).toNat n) := by
  have e := wrap_u64_mod d
  have h := order_l0 n (IntKind.u64.wrap d).toNat (List.replicate n false) [] (by rw [remL_iota, iota_length]) (by omega) (by simpa using h2) (by simpa using h2)
  rw [remL_iota, List.length_replicate, List.nil_append, Int.toNat_of_nonneg (by omega)] at h
  refine Late.step (h := fun K => hearsayref09_Order.l0 K n [] (List.replicate n false) (IntKind.u64.wrap d) n) (fun K => ?_) h
  unfold hearsayref09_Order.f
  rw [if_neg (by omega)]
  simp only [hearsayref09_Order.j0]
  rw [if_neg (by simp; omega), if_pos (by omega), if_pos (by omega)]
  rfl

theorem order_f_none (d n : Int) (h : n < 1 ∨ 1000 < n) : hearsayref09_Order.f 1 d n = some [] := by
  unfold hearsayref09_Order.f
  rcases h with h | h
  · rw [if_pos h]; simp [hearsayref09_Order.j0]
  · rw [if_neg (by omega)]
    simp only [hearsayref09_Order.j0]
    rw [if_pos (by simp; omega)]
end Go.Proofs.Ytnnmhpplmihidaa
