/- The document's net beside the net's links: Clear, All, Next. -/
import Derived.Test.YtnnmhpplmihidaaPlaysRel
import Derived.Test.YtnnmhpplmihidaaNetNext
namespace Go.Proofs.Ytnnmhpplmihidaa
set_option linter.unusedVariables false
set_option linter.unusedSimpArgs false
open PLinkPlays Go.RowKit

def notTo (peer : Int) (x : RF) : Bool := decide (x.f1 ≠ peer)

theorem clear_l0 (peer P : Int) (M : List RF) (hM : M.length < 1000) : ∀ (k idx : Nat) (acc : List RF), idx ≤ M.length → acc.length ≤ idx → M.length - idx < k →
    hearsayref26_Clear.l0 k peer acc (idx : Int) P M = some (P, acc ++ (M.drop idx).filter (notTo peer), (M.length : Int) - ((acc ++ (M.drop idx).filter (notTo peer)).length : Int))
  | 0, idx, acc, _, _, hk => by omega
  | k + 1, idx, acc, hl, ha, hk => by
    unfold hearsayref26_Clear.l0
    by_cases hlt : idx < M.length
    · have hd : M.drop idx = M[idx] :: M.drop (idx + 1) := List.drop_eq_getElem_cons hlt
      have hw1 : wrap64 ((idx : Int) + 1) = ((idx + 1 : Nat) : Int) := by rw [wrap64_small _ (by omega) (by omega)]; omega
      rw [if_pos (by omega), if_pos (by omega), rd_eq hlt, hw1, hd, List.filter_cons]
      by_cases e : M[idx].f1 = peer
      · rw [if_pos e, if_neg (by simp [notTo, e]), clear_l0 peer P M hM k (idx + 1) acc (by omega) (by omega) (by omega)]
      · rw [if_neg e, if_pos (by omega), if_pos (by simp [notTo, e])]
        show hearsayref26_Clear.l0 k peer (acc ++ [M[idx]]) ((idx + 1 : Nat) : Int) P M = _
        rw [clear_l0 peer P M hM k (idx + 1) (acc ++ [M[idx]]) (by omega) (by simp; omega) (by omega), List.append_assoc]
        rfl
    · have e : idx = M.length := by omega
      subst e
      rw [if_neg (by omega)]
      simp
      rw [wrap64_small _ (by omega) (by omega)]

theorem clear_f (k : Nat) (hk : 4000 ≤ k) (P peer : Int) (M : List RF) (hM : M.length < 1000) :
    hearsayref26_Clear.f k P M peer = some (P, M.filter (notTo peer), (M.length : Int) - ((M.filter (notTo peer)).length : Int)) := by
  unfold hearsayref26_Clear.f
  have := clear_l0 peer P M hM k 0 [] (by omega) (by simp) (by omega)
  simpa using this

theorem Ok.hT {P : Int} {M : List RF} {L : Int × Int → List Fr} {n : Nat} (h : Ok P M L n) : ∀ p, L p ≠ [] → thereB P p.1 p.2 = true := by
  intro p hp
  have h1 := h.rel p.1 p.2
  have : M.filter (onK p.1 p.2) ≠ [] := by
    intro e
    rw [e] at h1
    exact hp h1
  obtain ⟨x, hx⟩ := List.exists_mem_of_ne_nil _ this
  obtain ⟨h2, h3⟩ := List.mem_filter.1 hx
  have := h.there x h2
  simp only [onK, decide_eq_true_eq] at h3
  rw [h3.1, h3.2] at this
  exact this

theorem thereB_iff {P a b : Int} : thereB P a b = true ↔ (a ≠ b ∧ 0 ≤ a ∧ 0 ≤ b ∧ a < P ∧ b < P) := by unfold thereB; simp

theorem Ok.clear {P : Nat} {M : List RF} {L : Int × Int → List Fr} {n : Nat} (h : Ok P M L n) (peer : Int) : Ok P (M.filter (notTo peer)) (clearL L peer P) n where
  rel a b := by
    rw [List.filter_filter]
    unfold clearL
    by_cases e : b = peer
    · have hnil : M.filter (fun x => onK a b x && notTo peer x) = [] := by
        rw [List.filter_eq_nil_iff]
        intro x _ hx
        simp only [onK, notTo, Bool.and_eq_true, decide_eq_true_eq] at hx
        exact hx.2 (by rw [hx.1.2, e])
      rw [hnil]
      by_cases ha : 0 ≤ a ∧ a < P
      · rw [if_pos ⟨e, ha.1, ha.2⟩]
        rfl
      · rw [if_neg (by intro hh; exact ha ⟨hh.2.1, hh.2.2⟩)]
        by_cases hn : L (a, b) = []
        · exact hn
        · have := thereB_iff.1 (h.hT _ hn)
          simp only at this
          omega
    · rw [if_neg (by intro hh; exact e hh.1), h.rel]
      congr 1
      apply List.filter_congr
      intro x _
      by_cases hk : onK a b x = true
      · rw [hk]
        simp only [onK, decide_eq_true_eq] at hk
        have : notTo peer x = true := by simp [notTo, hk.2, e]
        rw [this]
        rfl
      · simp only [Bool.not_eq_true] at hk
        rw [hk]
        rfl
  len := Nat.le_trans (List.length_filter_le _ _) h.len
  there x hx := h.there x (List.mem_filter.1 hx).1
  size x hx := h.size x (List.mem_filter.1 hx).1

def upTo (peer : Int) (f : Nat) (x : RF) : Bool := decide (x.f1 = peer ∧ 0 ≤ x.f0 ∧ x.f0 < f)

theorem clearK_count {P : Int} {M : List RF} {L : Int × Int → List Fr} {n : Nat} (h : Ok P M L n) (peer : Int) : ∀ f : Nat, clearK P L peer f = M.countP (upTo peer f)
  | 0 => by
    unfold clearK
    symm
    rw [List.countP_eq_zero]
    intro x _ hx
    simp only [upTo, decide_eq_true_eq] at hx
    omega
  | f + 1 => by
    have ih := clearK_count h peer f
    unfold clearK
    rw [ih, ← h.lenM, ← List.countP_eq_length_filter]
    clear ih
    induction M with
    | nil => rfl
    | cons x M _ => exact aux peer f (x :: M)
where
  aux (peer : Int) (f : Nat) : ∀ M : List RF, M.countP (upTo peer f) + M.countP (onK f peer) = M.countP (upTo peer (f + 1))
  | [] => rfl
  | x :: M => by
    have := aux peer f M
    simp only [List.countP_cons]
    have e : ((if upTo peer f x = true then 1 else 0) + (if onK f peer x = true then 1 else 0) : Nat) = if upTo peer (f + 1) x = true then 1 else 0 := by
      simp only [upTo, onK, decide_eq_true_eq]
      by_cases h1 : x.f1 = peer <;> by_cases h2 : x.f0 = (f : Int) <;> simp [h1, h2] <;> first | omega | (by_cases h3 : 0 ≤ x.f0 ∧ x.f0 < (f : Int) <;> simp [h3] <;> omega)
    omega

theorem Ok.clearN {P : Nat} {M : List RF} {L : Int × Int → List Fr} {n : Nat} (h : Ok P M L n) (peer : Int) : (clearK P L peer P : Int) = (M.length : Int) - ((M.filter (notTo peer)).length : Int) := by
  rw [clearK_count h peer P, ← List.countP_eq_length_filter]
  have : ∀ K : List RF, (∀ x ∈ K, thereB P x.f0 x.f1 = true) → K.countP (upTo peer P) + K.countP (notTo peer) = K.length := by
    intro K
    induction K with
    | nil => intro _; rfl
    | cons x K ih =>
      intro hK
      have h1 := ih (fun y hy => hK y (List.mem_cons_of_mem _ hy))
      have h2 := thereB_iff.1 (hK x List.mem_cons_self)
      simp only [List.countP_cons, List.length_cons]
      have e : ((if upTo peer P x = true then 1 else 0) + (if notTo peer x = true then 1 else 0) : Nat) = 1 := by
        simp only [upTo, notTo, decide_eq_true_eq]
        by_cases h3 : x.f1 = peer
        · rw [if_pos ⟨h3, h2.2.1, h2.2.2.2.1⟩, if_neg (by simpa using h3)]
        · rw [if_neg (fun hh => h3 hh.1), if_pos h3]
      omega
  have := this M h.there
  omega

theorem sum_keys (M : List RF) : ∀ K : List (Int × Int), K.Nodup → (∀ x ∈ M, (x.f0, x.f1) ∈ K) → (K.map fun p => (M.filter (onK p.1 p.2)).length).sum = M.length := by
  induction M with
  | nil =>
    intro K _ _
    have : ∀ K : List (Int × Int), (K.map fun p => (([] : List RF).filter (onK p.1 p.2)).length).sum = 0 := by
      intro K
      induction K with
      | nil => rfl
      | cons p K ih =>
        simp only [List.map_cons, List.sum_cons, List.filter_nil, List.length_nil] at ih ⊢
        omega
    exact this K
  | cons x M ih =>
    intro K hK hx
    have h1 := ih K hK (fun y hy => hx y (List.mem_cons_of_mem _ hy))
    have h2 : ∀ K : List (Int × Int), K.Nodup → (K.map fun p => ((x :: M).filter (onK p.1 p.2)).length).sum = (K.map fun p => (M.filter (onK p.1 p.2)).length).sum + if (x.f0, x.f1) ∈ K then 1 else 0 := by
      intro K hK
      induction K with
      | nil => simp
      | cons p K ih2 =>
        have h3 := ih2 (List.nodup_cons.1 hK).2
        have e1 : ((x :: M).filter (onK p.1 p.2)).length = (M.filter (onK p.1 p.2)).length + if onK p.1 p.2 x = true then 1 else 0 := by
          rw [List.filter_cons]
          split <;> simp
        simp only [List.map_cons, List.sum_cons]
        rw [h3, e1]
        by_cases e : (x.f0, x.f1) = p
        · have ek : onK p.1 p.2 x = true := by simp [onK, ← e]
          have hnk : (x.f0, x.f1) ∉ K := by rw [e]; exact (List.nodup_cons.1 hK).1
          rw [if_pos ek, if_neg hnk, if_pos (by rw [e]; exact List.mem_cons_self)]
          omega
        · have ek : ¬ onK p.1 p.2 x = true := by
            simp only [onK, decide_eq_true_eq]
            intro hh
            exact e (Prod.ext hh.1 hh.2)
          rw [if_neg ek]
          by_cases hm : (x.f0, x.f1) ∈ K
          · rw [if_pos hm, if_pos (List.mem_cons_of_mem _ hm)]
            omega
          · rw [if_neg hm, if_neg (by intro hh; rcases List.mem_cons.1 hh with hh | hh; exact e hh; exact hm hh)]
            omega
    rw [h2 K hK, h1, if_pos (hx x List.mem_cons_self)]
    rfl

theorem Ok.all {P : Int} {M : List RF} {L : Int × Int → List Fr} {n : Nat} (h : Ok P M L n) {n0 : Nat} {w : World} {O : Nat → Prop} {g mb : Nat} {m : List ((Int × Int) × Value)} (hn : IsNet n0 w O g P L mb m) : allM L m = M.length := by
  have h1 := sum_keys M (m.map Prod.fst) hn.map.nodup (fun x hx => (hn.key _).2 (by
    intro e
    have h2 := h.rel x.f0 x.f1
    rw [e] at h2
    have h3 : x ∈ M.filter (onK x.f0 x.f1) := List.mem_filter.2 ⟨hx, by simp [onK]⟩
    have h4 : M.filter (onK x.f0 x.f1) = [] := List.map_eq_nil_iff.1 h2.symm
    rw [h4] at h3
    cases h3))
  rw [← h1]
  unfold allM
  rw [List.map_map]
  congr 1
  apply List.map_congr_left
  intro p _
  exact (filter_len h p.1.1 p.1.2).symm

theorem NextIs.one {L : Int × Int → List Fr} {r s : Int × Int × Bool} (h : NextIs L r) (k : NextIs L s) : r = s := by
  rcases h with ⟨rfl, h⟩ | ⟨h1, h2, h3⟩
  · rcases k with ⟨rfl, _⟩ | ⟨_, k2, _⟩
    · rfl
    · exact absurd (h _) k2
  · rcases k with ⟨rfl, k⟩ | ⟨k1, k2, k3⟩
    · exact absurd (k _) h2
    · have a := h3 _ k2
      have b := k3 _ h2
      unfold lexLt at a b
      obtain ⟨x, y, z⟩ := r
      obtain ⟨x', y', z'⟩ := s
      simp only at a b h1 k1
      subst h1 k1
      have e1 : x = x' := by omega
      have e2 : y = y' := by omega
      rw [e1, e2]

theorem next_l {P : Nat} (hP : P ≤ 64) {M : List RF} {L : Int × Int → List Fr} {n : Nat} (h : Ok P M L n) (hn : n < 1000) : ∀ k : Nat,
    (∀ f : Nat, f ≤ P → 4001 + (P - f) * (P + 3) ≤ k → (∀ p, L p ≠ [] → (f : Int) ≤ p.1) → ∃ r, hearsayref26_Next.l0 k (f : Int) P M = some r ∧ NextIs L r) ∧
    (∀ f t : Nat, f < P → t ≤ P → 4000 + (P - f) * (P + 3) ≤ k + t → (∀ p, L p ≠ [] → ¬ lexLt p ((f : Int), (t : Int))) → ∃ r, hearsayref26_Next.l1 k (f : Int) (t : Int) P M = some r ∧ NextIs L r)
  | 0 => ⟨fun f _ hk => by omega, fun f t hf ht hk => by
      have : (P - f) * (P + 3) = (P - f - 1) * (P + 3) + (P + 3) := by
        rw [← Nat.succ_mul]; congr 1; omega
      omega⟩
  | k + 1 => by
    obtain ⟨ih0, ih1⟩ := next_l hP h hn k
    have hl := h.len
    constructor
    · intro f hf hk hinv
      unfold hearsayref26_Next.l0
      by_cases hlt : f < P
      · rw [if_pos (by omega)]
        exact ih1 f 0 hlt (by omega) (by omega) (fun p hp hl => by
          have := hinv p hp
          have := thereB_iff.1 (h.hT p hp)
          unfold lexLt at hl
          simp only at hl
          omega)
      · rw [if_neg (by omega)]
        refine ⟨_, rfl, .inl ⟨rfl, fun p => ?_⟩⟩
        by_cases hp : L p = []
        · exact hp
        · have := hinv p hp
          have := thereB_iff.1 (h.hT p hp)
          omega
    · intro f t hf ht hk hinv
      have hmul : (P - f) * (P + 3) = (P - (f + 1)) * (P + 3) + (P + 3) := by
        rw [← Nat.succ_mul]; congr 1; omega
      unfold hearsayref26_Next.l1
      by_cases hlt : t < P
      · rw [if_pos (by omega), len_f k P M f t (by omega) (by omega)]
        simp only [Option.bind_some]
        rw [filter_len h]
        by_cases hz : (L ((f : Int), (t : Int))).length = 0
        · rw [if_neg (by omega), wrap64_small _ (by omega) (by omega)]
          have := ih1 f (t + 1) hf (by omega) (by omega) (fun p hp hl => by
            have h1 := hinv p hp
            have h2 : p ≠ ((f : Int), (t : Int)) := by
              intro e
              rw [e] at hp
              exact hp (List.length_eq_zero_iff.1 hz)
            have h3 : ¬ (p.1 = (f : Int) ∧ p.2 = (t : Int)) := fun hh => h2 (Prod.ext hh.1 hh.2)
            unfold lexLt at hl h1
            simp only at hl h1
            omega)
          simpa using this
        · rw [if_pos (by omega)]
          exact ⟨_, rfl, .inr ⟨rfl, fun e => hz (by simp only at e; rw [e]; rfl), fun p hp => hinv p hp⟩⟩
      · rw [if_neg (by omega), wrap64_small _ (by omega) (by omega)]
        have := ih0 (f + 1) (by omega) (by omega) (fun p hp => by
          have h1 := hinv p hp
          have h2 := thereB_iff.1 (h.hT p hp)
          unfold lexLt at h1
          simp only at h1
          omega)
        simpa using this

theorem next_f (k : Nat) {P : Nat} (hP : P ≤ 64) (hk : 10000 ≤ k) {M : List RF} {L : Int × Int → List Fr} {n : Nat} (h : Ok P M L n) (hn : n < 1000) : ∃ r, hearsayref26_Next.f k P M = some r ∧ NextIs L r := by
  unfold hearsayref26_Next.f
  refine (next_l hP h hn k).1 0 (by omega) ?_ (fun p hp => (thereB_iff.1 (h.hT p hp)).2.1)
  have : (P - 0) * (P + 3) ≤ 64 * 67 := Nat.mul_le_mul (by omega) (by omega)
  omega
end Go.Proofs.Ytnnmhpplmihidaa
