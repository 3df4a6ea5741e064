/- What is written as a number, or as a text, is read back, and only that: plain lists. What is written as an operation is read back, and only that: plain lists. An operation that was read is what stood there: plain lists. What is written as events is read back, and only that: plain lists. A trace that is written is read back, and only it: plain lists. the law TraceBack: its walk. -/
import Derived.Test.YtjmfdacnaodfdaaDoorK2
import Derived.Test.YtjmfdacnaodfdaaDoorK0
import Derived.Test.YtjmfdacnaodfdaaDoorK3
import Derived.Test.YtjmfdacnaodfdaaDoorK7
import Derived.StillTailTactics
import Derived.Deep.Cut
import Derived.Deep.DeepCutAuto
import Derived.Test.YtjmfdacnaodfdaaDoorK11
namespace Go.Proofs.YtjmfdacnaodfdaaDoor
set_option linter.unusedVariables false
set_option linter.unusedSimpArgs false

theorem u8_small (n : Nat) (h : n < 256) : (UInt8.ofNat n).toNat = n := by
  rw [UInt8.toNat_ofNat']
  exact Nat.mod_eq_of_lt h
theorem endM_put : ∀ (k n : Nat) (t : List UInt8), 1 ≤ k → n < 128 ^ k → endM (groupsL n ++ t) k = some ((groupsL n).length - 1)
  | 0, n, t, h, _ => absurd h (by omega)
  | k + 1, n, t, _, hn => by
    by_cases h : n < 128
    · rw [groupsL_small n h]
      simp only [List.cons_append, List.nil_append, endM, List.length_singleton]
      rw [if_pos (by rw [lt128, u8_small n (by omega)]; exact h)]
    · rw [groupsL_big n h]
      simp only [List.cons_append, endM, List.length_cons]
      rw [if_neg (by rw [lt128, u8_small _ (by omega)]; omega)]
      have h1 : 1 ≤ k := by
        rcases Nat.eq_zero_or_pos k with rfl | h1
        · simp at hn; omega
        · exact h1
      rw [endM_put k (n / 128) t h1 (by rw [Nat.div_lt_iff_lt_mul (by decide)]; rw [Nat.pow_succ] at hn; exact hn)]
      have hne : 0 < (groupsL (n / 128)).length := List.length_pos_iff.2 (groupsL_ne _)
      simp only [Option.map_some, Option.some.injEq]
      omega
theorem valM_put (n : Nat) : valM (groupsL n) = n := by
  induction n using Nat.strongRecOn with
  | _ n ih =>
    by_cases h : n < 128
    · rw [groupsL_small n h]
      simp only [valM, u8_small n (by omega)]
      omega
    · rw [groupsL_big n h]
      simp only [valM]
      rw [ih (n / 128) (by omega), u8_small _ (by omega)]
      omega
theorem last_put (n : Nat) (hn : 1 ≤ n) (t : List UInt8) : (groupsL n ++ t).getD ((groupsL n).length - 1) 0 ≠ 0 := by
  induction n using Nat.strongRecOn with
  | _ n ih =>
    by_cases h : n < 128
    · rw [groupsL_small n h]
      simp only [List.length_singleton, Nat.sub_self, List.cons_append, List.getD_cons_zero]
      intro h0
      have := congrArg UInt8.toNat h0
      rw [u8_small n (by omega)] at this
      simp at this
      omega
    · have := ih (n / 128) (by omega) (by omega)
      rw [groupsL_big n h]
      have hne : 0 < (groupsL (n / 128)).length := List.length_pos_iff.2 (groupsL_ne _)
      simp only [List.cons_append, List.length_cons, Nat.add_sub_cancel]
      obtain ⟨m, hm⟩ : ∃ m, (groupsL (n / 128)).length = m + 1 := ⟨(groupsL (n / 128)).length - 1, by omega⟩
      rw [hm] at this ⊢
      simpa using this
/-- A number is read off its bytes. -/
theorem take_put (n : Nat) (h : n ≤ 1073741824) (t : List UInt8) : takeM (groupsL n ++ t) = ((n : Int), ((groupsL n).length : Int), 0) := by
  have hne : 0 < (groupsL n).length := List.length_pos_iff.2 (groupsL_ne _)
  unfold takeM
  rw [endM_put 5 n t (by omega) (by have : (128 : Nat) ^ 5 = 34359738368 := by decide
                                    omega)]
  simp only
  have hv : valM ((groupsL n ++ t).take ((groupsL n).length - 1 + 1)) = n := by
    rw [show (groupsL n).length - 1 + 1 = (groupsL n).length by omega, List.take_left, valM_put]
  rw [hv, if_neg, if_neg (by omega)]
  · simp only [Prod.mk.injEq, true_and, and_true]
    omega
  · rintro ⟨h0, h1⟩
    rcases Nat.eq_zero_or_pos n with rfl | hp
    · rw [groupsL_small 0 (by omega)] at h1
      simp at h1
    · exact last_put n hp t h0
theorem take_back : ∀ (l : List UInt8) (k i : Nat), endM l k = some i → ¬ (l.getD i 0 = 0 ∧ 0 < i) → i < l.length ∧ l.take (i + 1) = groupsL (valM (l.take (i + 1)))
  | l, 0, i, h, _ => by cases l <;> simp [endM] at h
  | [], k + 1, i, h, _ => by simp [endM] at h
  | c :: l, k + 1, i, h, hz => by
    simp only [endM] at h
    by_cases hc : c < 128
    · rw [if_pos hc] at h
      obtain rfl : 0 = i := by simpa using h
      rw [lt128] at hc
      refine ⟨by simp, ?_⟩
      simp only [Nat.zero_add, List.take_succ_cons, List.take_zero, valM]
      rw [groupsL_small _ (by omega)]
      have : c.toNat % 128 + 128 * 0 = c.toNat := by omega
      rw [this]
      simp
    · rw [if_neg hc] at h
      obtain ⟨j, hj, rfl⟩ := Option.map_eq_some_iff.1 h
      have hl0 : l.getD j 0 ≠ 0 := fun h0 => hz ⟨by simpa using h0, by omega⟩
      obtain ⟨hjl, he⟩ := take_back l k j hj (fun hh => hl0 hh.1)
      rw [lt128] at hc
      refine ⟨by simp; omega, ?_⟩
      rw [List.take_succ_cons]
      simp only [valM]
      have hc2 : c.toNat < 256 := c.toNat_lt
      have hV : 1 ≤ valM (l.take (j + 1)) := by
        rcases Nat.eq_zero_or_pos (valM (l.take (j + 1))) with h0 | h0
        · rw [h0, groupsL_small 0 (by omega)] at he
          have hlen := congrArg List.length he
          simp only [List.length_take, List.length_singleton] at hlen
          obtain rfl : j = 0 := by omega
          cases l with
          | nil => simp at hjl
          | cons d l =>
            simp only [Nat.zero_add, List.take_succ_cons, List.take_zero, List.cons.injEq, and_true] at he
            exact absurd (by simpa using he) hl0
        · exact h0
      rw [groupsL_big _ (by omega)]
      have e1 : (c.toNat % 128 + 128 * valM (l.take (j + 1))) % 128 + 128 = c.toNat := by omega
      have e2 : (c.toNat % 128 + 128 * valM (l.take (j + 1))) / 128 = valM (l.take (j + 1)) := by omega
      rw [e1, e2, ← he]
      simp
/-- Only those bytes are read as the number. -/
theorem take_only {l : List UInt8} {N K : Nat} (h : takeM l = ((N : Int), (K : Int), 0)) : l = groupsL N ++ l.drop K ∧ N ≤ 1073741824 := by
  unfold takeM at h
  cases he : endM l 5 with
  | none =>
    rw [he] at h
    simp only at h
    split at h <;> simp at h
  | some i =>
    rw [he] at h
    simp only at h
    split at h
    · simp at h
    · rename_i hz
      obtain ⟨hi, ht⟩ := take_back l 5 i he hz
      split at h
      · simp at h
      · rename_i hb
        simp only [Prod.mk.injEq, Int.natCast_inj, and_true] at h
        obtain ⟨rfl, h2⟩ := h
        have h3 : K = i + 1 := by omega
        subst h3
        rw [← ht, List.take_append_drop]
        exact ⟨rfl, by omega⟩

theorem numE_put (n : Nat) (h : n ≤ 1073741824) (most : Int) (hm : (n : Int) ≤ most) (t : List UInt8) : numE (groupsL n ++ t) most = 0 := by
  unfold numE
  rw [take_put n h t]
  simp only
  rw [if_neg (by omega)]
theorem putM_nat (n : Int) (h : 0 ≤ n ∧ n ≤ 1073741824) : putM n = groupsL n.toNat := by unfold putM; rw [if_pos h]
/-- A number, read back. -/
theorem Rd.num_put (n most : Int) (h : 0 ≤ n ∧ n ≤ 1073741824) (hm : n ≤ most) (t : List UInt8) : (⟨putM n ++ t, 0⟩ : Rd).num most = (n, ⟨t, 0⟩) := by
  have hN : ((n.toNat : Nat) : Int) = n := by omega
  unfold Rd.num
  simp only
  rw [putM_nat n h, if_neg (by simp), if_neg (by rw [numE_put n.toNat (by omega) most (by omega)]; simp), take_put n.toNat (by omega)]
  simp only [Int.toNat_natCast, List.drop_left, hN]
/-- A number that was read is what stood there. -/
theorem Rd.num_only (r : Rd) (most : Int) (h : (r.num most).2.e = 0) : r.e = 0 ∧ (0 ≤ (r.num most).1 ∧ (r.num most).1 ≤ 1073741824) ∧ (r.num most).1 ≤ most ∧ r.l = putM (r.num most).1 ++ (r.num most).2.l := by
  obtain ⟨l, e⟩ := r
  unfold Rd.num at h ⊢
  simp only at h ⊢
  by_cases he : e ≠ 0
  · rw [if_pos he] at h
    exact absurd h he
  · rw [if_neg he] at h ⊢
    by_cases hE : numE l most ≠ 0
    · rw [if_pos hE] at h
      exact absurd h hE
    · rw [if_neg hE] at h ⊢
      obtain ⟨N, K, ht, h1, h2, h3, h4⟩ := numE_ok (by simpa using hE)
      rw [ht]
      simp only [Int.toNat_natCast]
      refine ⟨by simpa using he, ⟨by omega, by omega⟩, h1, ?_⟩
      rw [putM_nat _ ⟨by omega, by omega⟩, Int.toNat_natCast]
      exact (take_only ht).1
/-- A text, read back. -/
theorem Rd.txt_put (s : List UInt8) (most : Int) (h : s.length ≤ 1073741824) (hm : (s.length : Int) ≤ most) (t : List UInt8) : (⟨putM s.length ++ s ++ t, 0⟩ : Rd).txt most = (s, ⟨t, 0⟩) := by
  unfold Rd.txt
  simp only
  rw [putM_nat _ ⟨by omega, by omega⟩, Int.toNat_natCast, List.append_assoc, if_neg (by simp), if_neg (by rw [numE_put s.length h most hm]; simp), take_put s.length h]
  simp only [Int.toNat_natCast, List.drop_left, List.take_left, List.length_append]
  rw [if_neg (by omega)]
theorem Rd.txt_only (r : Rd) (most : Int) (h : (r.txt most).2.e = 0) : r.e = 0 ∧ ((r.txt most).1.length : Int) ≤ most ∧ r.l = putM (r.txt most).1.length ++ (r.txt most).1 ++ (r.txt most).2.l := by
  obtain ⟨l, e⟩ := r
  unfold Rd.txt at h ⊢
  simp only at h ⊢
  by_cases he : e ≠ 0
  · rw [if_pos he] at h
    exact absurd h he
  · rw [if_neg he] at h ⊢
    by_cases hE : numE l most ≠ 0
    · rw [if_pos hE] at h
      exact absurd h hE
    · rw [if_neg hE] at h ⊢
      obtain ⟨N, K, ht, h1, h2, h3, h4⟩ := numE_ok (by simpa using hE)
      rw [ht] at h ⊢
      simp only [Int.toNat_natCast] at h ⊢
      by_cases hs : l.length < K + N
      · rw [if_pos hs] at h
        simp at h
      · rw [if_neg hs] at h ⊢
        have hl : ((l.drop K).take N).length = N := by simp only [List.length_take, List.length_drop]; omega
        refine ⟨by simpa using he, by simp only; omega, ?_⟩
        simp only
        rw [hl, putM_nat _ ⟨by omega, by omega⟩, Int.toNat_natCast, List.append_assoc, List.take_append_drop]
        exact (take_only ht).1
/-- What a writer writes. -/
theorem Wr.num_put (r : Wr) (h : r.e = 0) (n : Int) (h0 : 0 ≤ n ∧ n ≤ 1073741824) : r.num n = ⟨r.l ++ putM n, 0⟩ := by
  unfold Wr.num Wr.put
  rw [if_neg (by simp [h]), if_pos (by simpa using h0)]
theorem Wr.txt_put (r : Wr) (h : r.e = 0) (t : List UInt8) (h0 : t.length ≤ 65536) : r.txt t = ⟨r.l ++ (putM t.length ++ t), 0⟩ := by
  unfold Wr.txt Wr.put
  rw [if_neg (by simp [h]), if_pos (by simpa using h0)]
end Go.Proofs.YtjmfdacnaodfdaaDoor

namespace Go.Proofs.YtjmfdacnaodfdaaDoor
set_option linter.unusedVariables false
set_option linter.unusedSimpArgs false

theorem spare_eq : ∀ (b0 b1 b2 b3 b4 b5 : Bool), ∀ k : Fin 13, spareB (bools6 b0 b1 b2 b3 b4 b5) k = !((fbit k 0 || !b0) && (fbit k 1 || !b1) && (fbit k 2 || !b2) && (fbit k 3 || !b3) && (fbit k 4 || !b4) && (fbit k 5 || !b5)) := by decide +kernel
theorem or_imp' (a b : Bool) : (a || !b) = true ↔ (a = false → b = false) := by cases a <;> cases b <;> simp
theorem spare_iff (b0 b1 b2 b3 b4 b5 : Bool) (k : Fin 13) : (spareB (bools6 b0 b1 b2 b3 b4 b5) k = false ↔ ((fbit k 0 = false → b0 = false) ∧ (fbit k 1 = false → b1 = false) ∧ (fbit k 2 = false → b2 = false) ∧ (fbit k 3 = false → b3 = false) ∧ (fbit k 4 = false → b4 = false) ∧ (fbit k 5 = false → b5 = false))) := by
  rw [spare_eq]
  simp only [Bool.not_eq_false', Bool.and_eq_true, or_imp', and_assoc]
theorem ba_empty (S : ByteArray) : S.toList.isEmpty = true ↔ S = bs [] := by
  constructor
  · intro h
    have h1 : S.toList = [] := by simpa using h
    rw [ByteArray.toList_eq] at h1
    exact ByteArray.ext (Array.toList_inj.1 h1)
  · rintro rfl
    rw [ByteArray.toList_eq]
    rfl
/-- Fields that the kind has not. -/
def Zeros (x : OpR) : Prop := (fbit x.k.toNat 0 = false → x.t = 0) ∧ (fbit x.k.toNat 1 = false → x.n = 0) ∧ (fbit x.k.toNat 2 = false → x.a = 0) ∧ (fbit x.k.toNat 3 = false → x.m = 0) ∧ (fbit x.k.toNat 4 = false → x.u = bs []) ∧ (fbit x.k.toNat 5 = false → x.v = bs [])
theorem spare_zeros (x : OpR) (h0 : 0 ≤ x.k ∧ x.k < 13) : spareM x = false ↔ Zeros x := by
  unfold spareM Zeros
  have h := spare_iff (x.t != 0) (x.n != 0) (x.a != 0) (x.m != 0) (!x.u.toList.isEmpty) (!x.v.toList.isEmpty) ⟨x.k.toNat, by omega⟩
  simp only at h
  rw [h]
  simp only [bne_eq_false_iff_eq, Bool.not_eq_false', ba_empty]
structure OpOk (x : OpR) : Prop where
  k : 0 ≤ x.k ∧ x.k < 13
  p : 0 ≤ x.p ∧ x.p ≤ 63
  t : 0 ≤ x.t ∧ x.t ≤ 63
  n : 0 ≤ x.n ∧ x.n ≤ 1073741824
  a : 0 ≤ x.a ∧ x.a ≤ 1073741824
  m : 0 ≤ x.m ∧ x.m ≤ 1073741824
  u : x.u.data.toList.length ≤ 255
  v : x.v.data.toList.length ≤ 255
  z : Zeros x
theorem check_ok (x : OpR) : checkM x = 0 ↔ OpOk x := by
  constructor
  · intro h
    obtain ⟨h1, h2, h3, h4, h5, h6⟩ := check_zero' x h
    exact ⟨h1, by omega, by omega, by omega, by omega, by omega, h4, h5, (spare_zeros x h1).1 h6⟩
  · intro h
    have hs := (spare_zeros x h.k).2 h.z
    have h1 := h.k
    have h2 := h.p
    have h3 := h.t
    have h4 := h.n
    have h5 := h.a
    have h6 := h.m
    have h7 : x.u.size ≤ 255 := h.u
    have h8 : x.v.size ≤ 255 := h.v
    unfold checkM
    rw [if_neg (by simp [kindB]; omega), if_neg (by simp [peerB]; omega), if_neg (by simp [numB]; omega), if_neg (by simp [textB]; omega), if_neg (by simp [hs])]

/-- A field's bytes, if the kind has it. -/
def oN (b : Bool) (n : Int) : List UInt8 := if b = true then putM n else []
def oT (b : Bool) (s : List UInt8) : List UInt8 := if b = true then putM s.length ++ s else []
def bodyL (x : OpR) : List UInt8 := putM x.k ++ (putM x.p ++ (oN (fbit x.k.toNat 0) x.t ++ (oN (fbit x.k.toNat 1) x.n ++ (oN (fbit x.k.toNat 2) x.a ++ (oN (fbit x.k.toNat 3) x.m ++ (oT (fbit x.k.toNat 4) x.u.data.toList ++ oT (fbit x.k.toNat 5) x.v.data.toList))))))
theorem Wr.num_opt (l : List UInt8) (b : Bool) (n : Int) (h : 0 ≤ n ∧ n ≤ 1073741824) : (if b = true then (⟨l, 0⟩ : Wr).num n else ⟨l, 0⟩) = ⟨l ++ oN b n, 0⟩ := by
  cases b
  · simp [oN]
  · rw [if_pos rfl, Wr.num_put _ rfl n h]
    simp [oN]
theorem Wr.txt_opt (l : List UInt8) (b : Bool) (t : List UInt8) (h : t.length ≤ 255) : (if b = true then (⟨l, 0⟩ : Wr).txt t else ⟨l, 0⟩) = ⟨l ++ oT b t, 0⟩ := by
  cases b
  · simp [oT]
  · rw [if_pos rfl, Wr.txt_put _ rfl t (by omega)]
    simp [oT]
theorem Wr.body_put (l : List UInt8) (x : OpR) (h : OpOk x) : (⟨l, 0⟩ : Wr).body x = ⟨l ++ bodyL x, 0⟩ := by
  have h1 := h.k
  have h2 := h.p
  have h3 := h.t
  unfold Wr.body
  rw [Wr.num_put _ rfl x.k (by omega)]
  simp only
  rw [Wr.num_put _ rfl x.p (by omega)]
  simp only [Wr.nums, Wr.txts]
  have e0 : x.numA (2 + 0) = x.t := rfl
  have e1 : x.numA (2 + 1) = x.n := rfl
  have e2 : x.numA (2 + 2) = x.a := rfl
  have e3 : x.numA (2 + 3) = x.m := rfl
  have e4 : x.textA (6 + 0) = x.u.data.toList := rfl
  have e5 : x.textA (6 + 1) = x.v.data.toList := rfl
  rw [e0, e1, e2, e3, e4, e5, Wr.num_opt _ _ x.t (by omega), Wr.num_opt _ _ x.n h.n, Wr.num_opt _ _ x.a h.a, Wr.num_opt _ _ x.m h.m, Wr.txt_opt _ _ _ h.u, Wr.txt_opt _ _ _ h.v]
  simp only [bodyL, List.append_assoc, Nat.add_zero]
/-- A field, read back. -/
theorem gnum_opt (y : OpR) (i : Nat) (b : Bool) (n most : Int) (t : List UInt8) (h : 0 ≤ n ∧ n ≤ 1073741824) (hm : n ≤ most) (hz : b = false → n = 0) (hy : y.setN i 0 = y) :
    (if b = true then gnum (y, ⟨oN b n ++ t, 0⟩) i most else (y, ⟨oN b n ++ t, 0⟩)) = (y.setN i n, ⟨t, 0⟩) := by
  cases b
  · rw [hz rfl, hy]
    simp [oN]
  · rw [if_pos rfl]
    unfold gnum
    simp only [oN, if_true]
    rw [Rd.num_put n most h hm t]
theorem gtxt_opt (y : OpR) (i : Nat) (b : Bool) (s : List UInt8) (t : List UInt8) (h : s.length ≤ 255) (hz : b = false → s = []) (hy : y.setT i [] = y) :
    (if b = true then gtxt (y, ⟨oT b s ++ t, 0⟩) i else (y, ⟨oT b s ++ t, 0⟩)) = (y.setT i s, ⟨t, 0⟩) := by
  cases b
  · rw [hz rfl, hy]
    simp [oT]
  · rw [if_pos rfl]
    unfold gtxt
    simp only [oT, if_true]
    rw [Rd.txt_put s 255 (by omega) (by omega) t]
theorem Rd.op_put (x : OpR) (h : OpOk x) (t : List UInt8) : (⟨bodyL x ++ t, 0⟩ : Rd).op = (x, ⟨t, 0⟩) := by
  have h1 := h.k
  have h2 := h.p
  have h3 := h.t
  obtain ⟨z0, z1, z2, z3, z4, z5⟩ := h.z
  have hn : (⟨bodyL x ++ t, 0⟩ : Rd).num 1073741824 = (x.k, ⟨putM x.p ++ (oN (fbit x.k.toNat 0) x.t ++ (oN (fbit x.k.toNat 1) x.n ++ (oN (fbit x.k.toNat 2) x.a ++ (oN (fbit x.k.toNat 3) x.m ++ (oT (fbit x.k.toNat 4) x.u.data.toList ++ (oT (fbit x.k.toNat 5) x.v.data.toList ++ t)))))), 0⟩) := by
    rw [show bodyL x ++ t = putM x.k ++ (putM x.p ++ (oN (fbit x.k.toNat 0) x.t ++ (oN (fbit x.k.toNat 1) x.n ++ (oN (fbit x.k.toNat 2) x.a ++ (oN (fbit x.k.toNat 3) x.m ++ (oT (fbit x.k.toNat 4) x.u.data.toList ++ (oT (fbit x.k.toNat 5) x.v.data.toList ++ t))))))) by simp only [bodyL, List.append_assoc]]
    exact Rd.num_put x.k 1073741824 (by omega) (by omega) _
  unfold Rd.op
  rw [hn]
  simp only
  rw [if_neg (by simp), if_neg (by omega)]
  unfold takeB gto
  simp only [gtxts, gnums, Nat.add_zero]
  have e1 : gnum ({ zeroR with k := x.k }, ⟨putM x.p ++ (oN (fbit x.k.toNat 0) x.t ++ (oN (fbit x.k.toNat 1) x.n ++ (oN (fbit x.k.toNat 2) x.a ++ (oN (fbit x.k.toNat 3) x.m ++ (oT (fbit x.k.toNat 4) x.u.data.toList ++ (oT (fbit x.k.toNat 5) x.v.data.toList ++ t)))))), 0⟩) 1 63 = (⟨x.k, x.p, 0, 0, 0, 0, bs [], bs []⟩, ⟨oN (fbit x.k.toNat 0) x.t ++ (oN (fbit x.k.toNat 1) x.n ++ (oN (fbit x.k.toNat 2) x.a ++ (oN (fbit x.k.toNat 3) x.m ++ (oT (fbit x.k.toNat 4) x.u.data.toList ++ (oT (fbit x.k.toNat 5) x.v.data.toList ++ t))))), 0⟩) := by
    unfold gnum
    simp only
    rw [Rd.num_put x.p 63 (by omega) (by omega) _]
    rfl
  rw [e1, gnum_opt _ 2 _ x.t 63 _ (by omega) (by omega) z0 rfl, gnum_opt _ 3 _ x.n _ _ h.n h.n.2 z1 rfl, gnum_opt _ 4 _ x.a _ _ h.a h.a.2 z2 rfl, gnum_opt _ 5 _ x.m _ _ h.m h.m.2 z3 rfl,
    gtxt_opt _ 6 _ _ _ h.u (fun hb => by rw [z4 hb]) rfl, gtxt_opt _ 7 _ _ _ h.v (fun hb => by rw [z5 hb]) rfl]
  rfl
end Go.Proofs.YtjmfdacnaodfdaaDoor

namespace Go.Proofs.YtjmfdacnaodfdaaDoor
set_option linter.unusedVariables false
set_option linter.unusedSimpArgs false

theorem gnum_only (s : OpR × Rd) (i : Nat) (b : Bool) (most : Int) (hy : s.1.setN i 0 = s.1) (h : (if b = true then gnum s i most else s).2.e = 0) (hm : 0 ≤ most) :
    s.2.e = 0 ∧ ∃ n : Int, (0 ≤ n ∧ n ≤ 1073741824) ∧ n ≤ most ∧ (b = false → n = 0) ∧ (if b = true then gnum s i most else s).1 = s.1.setN i n ∧ s.2.l = oN b n ++ (if b = true then gnum s i most else s).2.l := by
  cases b
  · exact ⟨h, 0, by omega, hm, fun _ => rfl, by simp [hy], by simp [oN]⟩
  · rw [if_pos rfl] at h ⊢
    obtain ⟨h1, h2, h3, h4⟩ := Rd.num_only s.2 most h
    exact ⟨h1, (s.2.num most).1, h2, h3, fun hh => by simp at hh, rfl, by simp only [oN, if_true]; exact h4⟩
theorem gtxt_only (s : OpR × Rd) (i : Nat) (b : Bool) (hy : s.1.setT i [] = s.1) (h : (if b = true then gtxt s i else s).2.e = 0) :
    s.2.e = 0 ∧ ∃ t : List UInt8, t.length ≤ 255 ∧ (b = false → t = []) ∧ (if b = true then gtxt s i else s).1 = s.1.setT i t ∧ s.2.l = oT b t ++ (if b = true then gtxt s i else s).2.l := by
  cases b
  · exact ⟨h, [], by simp, fun _ => rfl, by simp [hy], by simp [oT]⟩
  · rw [if_pos rfl] at h ⊢
    obtain ⟨h1, h2, h3⟩ := Rd.txt_only s.2 255 h
    exact ⟨h1, (s.2.txt 255).1, by omega, fun hh => by simp at hh, rfl, by simp only [oT, if_true]; exact h3⟩
theorem Rd.op_only (r : Rd) (h : r.op.2.e = 0) : r.e = 0 ∧ OpOk r.op.1 ∧ r.l = bodyL r.op.1 ++ r.op.2.l := by
  obtain ⟨R, hR⟩ : ∃ R, r.op = R := ⟨_, rfl⟩
  rw [hR] at h ⊢
  unfold Rd.op at hR
  split at hR
  · subst hR
    rename_i hne
    exact absurd h hne
  · rename_i he
    split at hR
    · subst hR
      simp at h
    · rename_i hk
      obtain ⟨g1, g2, g3, g4⟩ := Rd.num_only r 1073741824 (by simpa using he)
      obtain ⟨K, hK⟩ : ∃ K, (r.num 1073741824).1 = K := ⟨_, rfl⟩
      obtain ⟨r1, hr1⟩ : ∃ r1, (r.num 1073741824).2 = r1 := ⟨_, rfl⟩
      rw [hK, hr1] at hR g4
      rw [hK] at g2 g3 hk
      unfold takeB gto at hR
      simp only [gtxts, gnums, Nat.add_zero] at hR
      obtain ⟨s1, hs1⟩ : ∃ s, gnum ({ zeroR with k := K }, r1) 1 63 = s := ⟨_, rfl⟩
      rw [hs1] at hR
      obtain ⟨s2, hs2⟩ : ∃ s, (if fbit K.toNat 0 = true then gnum s1 2 63 else s1) = s := ⟨_, rfl⟩
      rw [hs2] at hR
      obtain ⟨s3, hs3⟩ : ∃ s, (if fbit K.toNat 1 = true then gnum s2 3 1073741824 else s2) = s := ⟨_, rfl⟩
      rw [hs3] at hR
      obtain ⟨s4, hs4⟩ : ∃ s, (if fbit K.toNat (1 + 1) = true then gnum s3 (3 + 1) 1073741824 else s3) = s := ⟨_, rfl⟩
      rw [hs4] at hR
      obtain ⟨s5, hs5⟩ : ∃ s, (if fbit K.toNat (1 + 2) = true then gnum s4 (3 + 2) 1073741824 else s4) = s := ⟨_, rfl⟩
      rw [hs5] at hR
      obtain ⟨s6, hs6⟩ : ∃ s, (if fbit K.toNat 4 = true then gtxt s5 6 else s5) = s := ⟨_, rfl⟩
      rw [hs6] at hR
      subst hR
      -- what each step leaves of the fields that are still to come
      have f1 : ∀ {b : Bool} {s s' : OpR × Rd} {i : Nat} {most : Int}, (if b = true then gnum s i most else s) = s' → s'.1 = s.1 ∨ ∃ n, s'.1 = s.1.setN i n := by
        intro b s s' i most hh
        subst hh
        cases b
        · exact Or.inl rfl
        · exact Or.inr ⟨_, rfl⟩
      have y1 : ∃ p, s1.1 = ⟨K, p, 0, 0, 0, 0, bs [], bs []⟩ := by subst hs1; exact ⟨_, rfl⟩
      obtain ⟨p, y1⟩ := y1
      have y2 : ∃ t, s2.1 = ⟨K, p, t, 0, 0, 0, bs [], bs []⟩ := by
        rcases f1 hs2 with e | ⟨n, e⟩
        · exact ⟨0, by rw [e, y1]⟩
        · exact ⟨n, by rw [e, y1]; rfl⟩
      obtain ⟨t, y2⟩ := y2
      have y3 : ∃ n, s3.1 = ⟨K, p, t, n, 0, 0, bs [], bs []⟩ := by
        rcases f1 hs3 with e | ⟨n, e⟩
        · exact ⟨0, by rw [e, y2]⟩
        · exact ⟨n, by rw [e, y2]; rfl⟩
      obtain ⟨n, y3⟩ := y3
      have y4 : ∃ a, s4.1 = ⟨K, p, t, n, a, 0, bs [], bs []⟩ := by
        rcases f1 hs4 with e | ⟨n', e⟩
        · exact ⟨0, by rw [e, y3]⟩
        · exact ⟨n', by rw [e, y3]; rfl⟩
      obtain ⟨a, y4⟩ := y4
      have y5 : ∃ m, s5.1 = ⟨K, p, t, n, a, m, bs [], bs []⟩ := by
        rcases f1 hs5 with e | ⟨n', e⟩
        · exact ⟨0, by rw [e, y4]⟩
        · exact ⟨n', by rw [e, y4]; rfl⟩
      obtain ⟨m, y5⟩ := y5
      have y6 : ∃ u, s6.1 = ⟨K, p, t, n, a, m, bs u, bs []⟩ := by
        subst hs6
        cases fbit K.toNat 4
        · exact ⟨[], by simp [y5]⟩
        · exact ⟨(s5.2.txt 255).1, by simp only [if_true, gtxt, y5]; rfl⟩
      obtain ⟨u, y6⟩ := y6
      obtain ⟨x6, v, v1, v2, v3, v4⟩ := gtxt_only s6 (6 + 1) (fbit K.toNat (4 + 1)) (by rw [y6]; rfl) h
      rw [← hs6] at x6
      obtain ⟨x5, u', u1, u2, u3, u4⟩ := gtxt_only s5 6 (fbit K.toNat 4) (by rw [y5]; rfl) x6
      rw [← hs5] at x5
      obtain ⟨x4, m', m1, m2, m3, m4, m5⟩ := gnum_only s4 (3 + 2) (fbit K.toNat (1 + 2)) 1073741824 (by rw [y4]; rfl) x5 (by omega)
      rw [← hs4] at x4
      obtain ⟨x3, a', a1, a2, a3, a4, a5⟩ := gnum_only s3 (3 + 1) (fbit K.toNat (1 + 1)) 1073741824 (by rw [y3]; rfl) x4 (by omega)
      rw [← hs3] at x3
      obtain ⟨x2, n', n1, n2, n3, n4, n5⟩ := gnum_only s2 3 (fbit K.toNat 1) 1073741824 (by rw [y2]; rfl) x3 (by omega)
      rw [← hs2] at x2
      obtain ⟨x1, t', t1, t2, t3, t4, t5⟩ := gnum_only s1 2 (fbit K.toNat 0) 63 (by rw [y1]; rfl) x2 (by omega)
      rw [← hs1] at x1
      obtain ⟨x0, p1, p2, p3⟩ := Rd.num_only r1 63 x1
      have hp : s1.1 = ⟨K, (r1.num 63).1, 0, 0, 0, 0, bs [], bs []⟩ := by subst hs1; rfl
      have hp2 : s1.2 = (r1.num 63).2 := by subst hs1; rfl
      rw [hs2] at t4 t5
      rw [hs3] at n4 n5
      rw [hs4] at a4 a5
      rw [hs5] at m4 m5
      rw [hs6] at u3 u4
      rw [hp] at t4
      rw [t4] at n4
      rw [n4] at a4
      rw [a4] at m4
      rw [m4] at u3
      rw [u3] at v3
      have hx : (if fbit K.toNat (4 + 1) = true then gtxt s6 (6 + 1) else s6).1 = ⟨K, (r1.num 63).1, t', n', a', m', bs u', bs v⟩ := v3
      rw [hx]
      refine ⟨g1, ⟨⟨g2.1, by simp only; omega⟩, ⟨p1.1, p2⟩, ⟨t1.1, t2⟩, n1, a1, m1, u1, v1, t3, n3, a3, m3, fun hb => by rw [u2 hb], fun hb => by rw [v2 hb]⟩, ?_⟩
      rw [g4, p3, ← hp2, t5, n5, a5, m5, u4, v4]
      simp only [bodyL, List.append_assoc, bs_data]
end Go.Proofs.YtjmfdacnaodfdaaDoor

namespace Go.Proofs.YtjmfdacnaodfdaaDoor
set_option linter.unusedVariables false
set_option linter.unusedSimpArgs false

def oneL (x : OpR) : List UInt8 := putM 1 ++ bodyL x
theorem bytes1_put (x : OpR) (h : OpOk x) : (bytesW [x]).out = oneL x := by
  unfold bytesW
  simp only [List.foldl_cons, List.foldl_nil, List.length_singleton]
  rw [Wr.num_put ⟨[], 0⟩ rfl ((1 : Nat) : Int) (by omega)]
  unfold Wr.op
  rw [if_pos ((check_ok x).2 h)]
  simp only [List.nil_append]
  rw [Wr.body_put _ x h]
  simp only [Wr.out, if_true, oneL]
  rfl
theorem loop1_put (x : OpR) (h : OpOk x) : readLoop (0 + 1) ⟨bodyL x, 0⟩ [] = ([x], ⟨[], 0⟩) := by
  have h2 := Rd.op_put x h []
  rw [List.append_nil] at h2
  unfold readLoop
  rw [if_neg (by simp), h2]
  rfl
theorem read1_put (x : OpR) (h : OpOk x) : readM (oneL x) = ([x], 0) := by
  unfold readM oneL
  simp only
  rw [Rd.num_put 1 400 (by omega) (by omega)]
  simp only
  have e1 : (1 : Int).toNat = 0 + 1 := rfl
  rw [e1, loop1_put x h]
  simp only [Rd.done, if_true]
theorem readLoop_only : ∀ (n : Nat) (r : Rd) (acc : List OpR), (readLoop n r acc).2.e = 0 → r.e = 0 ∧ ∃ l, (readLoop n r acc).1 = acc ++ l ∧ l.length = n ∧ (∀ x ∈ l, OpOk x) ∧ r.l = l.flatMap bodyL ++ (readLoop n r acc).2.l
  | 0, r, acc, h => ⟨h, [], by simp [readLoop], rfl, by simp, by simp [readLoop]⟩
  | n + 1, r, acc, h => by
    unfold readLoop at h ⊢
    split at h
    · rename_i hne
      exact absurd h hne
    · rename_i hne
      rw [if_neg hne]
      obtain ⟨h1, l, h2, h3, h4, h5⟩ := readLoop_only n r.op.2 (acc ++ [r.op.1]) h
      obtain ⟨g1, g2, g3⟩ := Rd.op_only r h1
      refine ⟨g1, r.op.1 :: l, by rw [h2]; simp, by simp [h3], fun x hx => ?_, ?_⟩
      · rcases List.mem_cons.1 hx with rfl | hx
        · exact g2
        · exact h4 x hx
      · rw [g3, h5]
        simp
theorem read1_only {s : List UInt8} {x : OpR} (h : readM s = ([x], 0)) : s = oneL x ∧ OpOk x := by
  unfold readM at h
  simp only at h
  split at h
  · rename_i hd
    have he : (readLoop ((⟨s, 0⟩ : Rd).num 400).1.toNat ((⟨s, 0⟩ : Rd).num 400).2 []).2.e = 0 ∧ (readLoop ((⟨s, 0⟩ : Rd).num 400).1.toNat ((⟨s, 0⟩ : Rd).num 400).2 []).2.l = [] := by
      unfold Rd.done at hd
      split at hd
      · rename_i h1
        split at hd
        · rename_i h2
          exact ⟨h1, h2⟩
        · omega
      · rename_i h1
        exact absurd hd h1
    obtain ⟨h1, l, h2, h3, h4, h5⟩ := readLoop_only _ _ _ he.1
    rw [List.nil_append] at h2
    simp only [Prod.mk.injEq, and_true] at h
    rw [h2] at h
    subst h
    obtain ⟨g1, g2, g3, g4⟩ := Rd.num_only ⟨s, 0⟩ 400 h1
    have hn : ((⟨s, 0⟩ : Rd).num 400).1 = 1 := by simp only [List.length_singleton] at h3; omega
    rw [h5, he.2, hn] at g4
    refine ⟨?_, h4 x (by simp)⟩
    simpa [oneL] using g4
  · rename_i hd
    simp only [Prod.mk.injEq] at h
    exact absurd h.2 hd

def rawOf (x : EvR) : RawR := ⟨x.at_, x.err, x.dp, x.dc, oneL x.op⟩
def evL (x : EvR) : List UInt8 := putM x.at_ ++ (putM x.err ++ ((putM (oneL x.op).length ++ oneL x.op) ++ (putM x.dp ++ putM x.dc)))
theorem one_len (x : OpR) (h : OpOk x) : (oneL x).length ≤ 700 := by
  rw [← bytes1_put x h]
  exact bytes1_len x
theorem ev_put (l : List UInt8) (x : EvR) (h : evM x = 0) : (⟨l, 0⟩ : Wr).ev x = ⟨l ++ evL x, 0⟩ := by
  obtain ⟨h1, h2, h3, h4⟩ := evM_zero x h
  have ho := (check_ok x.op).1 h3
  have hl := one_len x.op ho
  unfold Wr.ev
  rw [bytes1_put x.op ho, Wr.num_put _ rfl x.at_ (by omega)]
  simp only
  rw [Wr.num_put _ rfl x.err (by omega)]
  simp only
  rw [Wr.txt_put _ rfl _ (by omega)]
  simp only
  rw [Wr.num_put _ rfl x.dp (by omega)]
  simp only
  rw [Wr.num_put _ rfl x.dc (by omega)]
  simp only [evL, List.append_assoc]
theorem takeT_put (x : EvR) (h : evM x = 0) (t : List UInt8) : takeT ⟨evL x ++ t, 0⟩ = (rawOf x, ⟨t, 0⟩) := by
  obtain ⟨h1, h2, h3, h4⟩ := evM_zero x h
  have ho := (check_ok x.op).1 h3
  have hl := one_len x.op ho
  unfold takeT evL
  simp only [List.append_assoc]
  rw [Rd.num_put x.at_ 399 (by omega) (by omega)]
  simp only
  rw [Rd.num_put x.err 1073741824 (by omega) (by omega)]
  simp only
  rw [← List.append_assoc (putM (oneL x.op).length), Rd.txt_put (oneL x.op) 65536 (by omega) (by omega)]
  simp only
  rw [Rd.num_put x.dp 63 (by omega) (by omega)]
  simp only
  rw [Rd.num_put x.dc 1048576 (by omega) (by omega)]
  rfl
theorem whole_put (x : EvR) (h : evM x = 0) : wholeM (rawOf x) = (x, 0) := by
  obtain ⟨h1, h2, h3, h4⟩ := evM_zero x h
  unfold wholeM rawOf
  simp only
  rw [read1_put x.op ((check_ok x.op).1 h3), if_neg (by simp)]
  simp only [h]
theorem takeT_only (r : Rd) (h : (takeT r).2.e = 0) : r.e = 0 ∧ r.l = putM (takeT r).1.at_ ++ (putM (takeT r).1.err ++ ((putM (takeT r).1.s.length ++ (takeT r).1.s) ++ (putM (takeT r).1.dp ++ (putM (takeT r).1.dc ++ (takeT r).2.l)))) := by
  unfold takeT at h ⊢
  simp only at h ⊢
  obtain ⟨e1, _, _, e2⟩ := Rd.num_only _ _ h
  obtain ⟨d1, _, _, d2⟩ := Rd.num_only _ _ e1
  obtain ⟨c1, _, c2⟩ := Rd.txt_only _ _ d1
  obtain ⟨b1, _, _, b2⟩ := Rd.num_only _ _ c1
  obtain ⟨a1, _, _, a2⟩ := Rd.num_only _ _ b1
  refine ⟨a1, ?_⟩
  rw [← e2, ← d2, ← c2, ← b2, ← a2]
theorem whole_only {x : RawR} (h : (wholeM x).2 = 0) : x = rawOf (wholeM x).1 ∧ evM (wholeM x).1 = 0 := by
  unfold wholeM at h ⊢
  simp only at h ⊢
  split at h
  · rename_i hne
    exact absurd h hne
  · rename_i hne
    rw [if_neg hne]
    split at h
    · rename_i op hop
      have hr : readM x.s = ([op], 0) := by
        have h2 : (readM x.s).2 = 0 := by simpa using hne
        rw [← hop, ← h2]
      refine ⟨?_, h⟩
      simp only [rawOf]
      rw [← (read1_only hr).1]
    · simp at h
end Go.Proofs.YtjmfdacnaodfdaaDoor

namespace Go.Proofs.YtjmfdacnaodfdaaDoor
set_option linter.unusedVariables false
set_option linter.unusedSimpArgs false

theorem fold_put : ∀ (l : List EvR) (s : List UInt8), (∀ x ∈ l, evM x = 0) → l.foldl stepT ⟨s, 0⟩ = ⟨s ++ l.flatMap evL, 0⟩
  | [], s, _ => by simp
  | x :: l, s, h => by
    rw [List.foldl_cons, stepT_zero _ x (h x (by simp)), ev_put s x (h x (by simp)), fold_put l _ fun y hy => h y (by simp [hy])]
    simp
theorem fold_good : ∀ (l : List EvR) (r : Wr), r.e = 0 → (l.foldl stepT r).e = 0 → ∀ x ∈ l, evM x = 0
  | [], r, _, _ => by simp
  | x :: l, r, hr, h => by
    rw [List.foldl_cons] at h
    by_cases hx : evM x = 0
    · intro y hy
      rcases List.mem_cons.1 hy with rfl | hy
      · exact hx
      · rw [stepT_zero r x hx] at h
        exact fold_good l _ (ev_ok r hr x hx) h y hy
    · exfalso
      have h1 := stepT_bad r x hr hx
      rw [foldT_stop l _ (by rw [h1]; exact hx), h1] at h
      exact hx h
theorem trace_put (l : List EvR) (h4 : l.length ≤ 400) (h : ∀ x ∈ l, evM x = 0) : traceB l = (putM l.length ++ l.flatMap evL, 0) := by
  unfold traceB traceW
  rw [if_neg (by omega), Wr.num_put ⟨[], 0⟩ rfl _ (by omega)]
  simp only [List.nil_append]
  rw [fold_put l _ h]
  simp only [Wr.out, if_true]
theorem trace_good (l : List EvR) (h : (traceB l).2 = 0) : l.length ≤ 400 ∧ ∀ x ∈ l, evM x = 0 := by
  unfold traceB at h
  split at h
  · simp at h
  · rename_i h4
    refine ⟨by omega, fold_good l _ ?_ h⟩
    rw [Wr.num_put ⟨[], 0⟩ rfl _ (by omega)]
theorem rawLoop_put : ∀ (l : List EvR) (acc : List RawR), (∀ x ∈ l, evM x = 0) → rawLoop l.length ⟨l.flatMap evL, 0⟩ acc = (acc ++ l.map rawOf, ⟨[], 0⟩)
  | [], acc, _ => by simp [rawLoop]
  | x :: l, acc, h => by
    rw [List.length_cons]
    unfold rawLoop
    rw [if_neg (by simp), List.flatMap_cons, takeT_put x (h x (by simp)), rawLoop_put l _ fun y hy => h y (by simp [hy])]
    simp
theorem wholeLoop_put : ∀ (l : List EvR) (acc : List EvR), (∀ x ∈ l, evM x = 0) → wholeLoop (l.map rawOf) acc = (acc ++ l, 0)
  | [], acc, _ => by simp [wholeLoop]
  | x :: l, acc, h => by
    rw [List.map_cons]
    unfold wholeLoop
    rw [whole_put x (h x (by simp)), if_neg (by simp), wholeLoop_put l _ fun y hy => h y (by simp [hy])]
    simp
/-- (a) What is written is read back. -/
theorem trace_read (l : List EvR) (h : (traceB l).2 = 0) : readT (traceB l).1 = (l, 0) := by
  obtain ⟨h4, hg⟩ := trace_good l h
  rw [trace_put l h4 hg]
  unfold readT
  simp only
  rw [Rd.num_put _ 400 (by omega) (by omega)]
  simp only [Int.toNat_natCast]
  rw [rawLoop_put l [] hg]
  simp only [Rd.done, if_true, List.nil_append]
  rw [if_neg (by simp), wholeLoop_put l [] hg]
  simp
theorem rawLoop_only : ∀ (n : Nat) (r : Rd) (acc : List RawR), (rawLoop n r acc).2.e = 0 → r.e = 0 ∧ ∃ l, (rawLoop n r acc).1 = acc ++ l ∧ l.length = n ∧ r.l = (l.flatMap fun x => putM x.at_ ++ (putM x.err ++ ((putM x.s.length ++ x.s) ++ (putM x.dp ++ putM x.dc)))) ++ (rawLoop n r acc).2.l
  | 0, r, acc, h => ⟨h, [], by simp [rawLoop], rfl, by simp [rawLoop]⟩
  | n + 1, r, acc, h => by
    unfold rawLoop at h ⊢
    split at h
    · rename_i hne
      exact absurd h hne
    · rename_i hne
      rw [if_neg hne]
      obtain ⟨h1, l, h2, h3, h5⟩ := rawLoop_only n (takeT r).2 (acc ++ [(takeT r).1]) h
      obtain ⟨g1, g3⟩ := takeT_only r h1
      refine ⟨g1, (takeT r).1 :: l, by rw [h2]; simp, by simp [h3], ?_⟩
      rw [g3, h5]
      simp
theorem wholeLoop_only : ∀ (l : List RawR) (acc : List EvR) (x : List EvR), wholeLoop l acc = (x, 0) → ∃ y, x = acc ++ y ∧ l = y.map rawOf ∧ ∀ z ∈ y, evM z = 0
  | [], acc, x, h => by
    simp only [wholeLoop, Prod.mk.injEq, and_true] at h
    exact ⟨[], by simp [h], rfl, by simp⟩
  | r :: l, acc, x, h => by
    unfold wholeLoop at h
    split at h
    · rename_i hne
      simp only [Prod.mk.injEq] at h
      exact absurd h.2 hne
    · rename_i hne
      obtain ⟨y, h1, h2, h3⟩ := wholeLoop_only l _ x h
      obtain ⟨g1, g2⟩ := whole_only (by simpa using hne)
      refine ⟨(wholeM r).1 :: y, by rw [h1]; simp, by rw [List.map_cons, ← g1, ← h2], fun z hz => ?_⟩
      rcases List.mem_cons.1 hz with rfl | hz
      · exact g2
      · exact h3 z hz
/-- (b) What was read is what is written. -/
theorem read_trace (s : List UInt8) (h : (readT s).2 = 0) : traceB (readT s).1 = (s, 0) := by
  obtain ⟨R, hR⟩ : ∃ R, readT s = R := ⟨_, rfl⟩
  rw [hR] at h ⊢
  obtain ⟨x, f⟩ := R
  simp only at h ⊢
  subst h
  unfold readT at hR
  simp only at hR
  split at hR
  · rename_i hd
    simp only [Prod.mk.injEq] at hR
    exact absurd hR.2 hd
  · rename_i hd
    have he : (rawLoop ((⟨s, 0⟩ : Rd).num 400).1.toNat ((⟨s, 0⟩ : Rd).num 400).2 []).2.e = 0 ∧ (rawLoop ((⟨s, 0⟩ : Rd).num 400).1.toNat ((⟨s, 0⟩ : Rd).num 400).2 []).2.l = [] := by
      have hd' : (rawLoop ((⟨s, 0⟩ : Rd).num 400).1.toNat ((⟨s, 0⟩ : Rd).num 400).2 []).2.done = 0 := by simpa using hd
      unfold Rd.done at hd'
      split at hd'
      · rename_i h1
        split at hd'
        · rename_i h2
          exact ⟨h1, h2⟩
        · omega
      · rename_i h1
        exact absurd hd' h1
    obtain ⟨h1, l, h2, h3, h5⟩ := rawLoop_only _ _ _ he.1
    rw [List.nil_append] at h2
    rw [h2] at hR
    obtain ⟨y, y1, y2, y3⟩ := wholeLoop_only l [] x hR
    rw [List.nil_append] at y1
    subst y1
    obtain ⟨g1, g2, g3, g4⟩ := Rd.num_only ⟨s, 0⟩ 400 h1
    have hlen : ((⟨s, 0⟩ : Rd).num 400).1 = (x.length : Int) := by
      have : l.length = x.length := by rw [y2]; simp
      omega
    rw [trace_put x (by omega) y3]
    rw [h5, he.2, hlen] at g4
    simp only [List.append_nil] at g4
    rw [Prod.mk.injEq]
    refine ⟨?_, rfl⟩
    rw [g4, y2]
    simp only [List.flatMap_map]
    rfl
end Go.Proofs.YtjmfdacnaodfdaaDoor

namespace Go.Proofs.YtjmfdacnaodfdaaDoor
set_option linter.unusedVariables false
set_option linter.unusedSimpArgs false
open Go.RowKit

/-- What is shown of the first half: the rest goes on in every world that is Below. -/
theorem evM_sizes {l : List EvR} (h : (traceB l).2 = 0) : l.length ≤ 400 := (trace_good l h).1

set_option maxHeartbeats 8000000 in
set_option maxRecDepth 100000 in
theorem traceBack_any (A : Option Addr) (c : Nat) (l : List EvR) (S : ByteArray) (hz : ∀ x ∈ l, x.op.u.size ≤ 1000000000000000 ∧ x.op.v.size ≤ 1000000000000000) (hl : l.length ≤ 1000000000000000) (w : World) (hd : Flds w) (h0 : 0 < w.heap.size) (ha : EvsAt w A l) :
    Calls Tryd.prog 5 #[.slice A l.length c, .string S] w fun e w' => e = .returned (.bool true) ∧ Below w.heap.size w w' := by
  have HA : Hid (∀ w', Below w.heap.size w w' → Calls Tryd.prog 7 #[] w' fun e w'' => e = .returned (.bool true) ∧ Below w.heap.size w w'') := Lib.hid fun w' hb => (awake40_any w' (hd.below hb) (by have := hb.size; omega)).mono fun e w'' h => ⟨h.1, hb.trans (h.2.mono hb.size)⟩
  have HG := Lib.hid (great40_any A c l hz hl w ha)
  have HT : Hid (Small40 l → ∀ w', Below w.heap.size w w' → Calls Tryd.prog 8 #[.slice A l.length c] w' fun e w'' => e = .returned (.tuple #[.string (bs (traceB l).1), .int .i64 (traceB l).2]) ∧ Below w.heap.size w w'') :=
    Lib.hid fun hs w' hb => (tbytes_any A c l (Nat.le_trans hs.1 (by omega)) w' (hd.below hb) (ha.below hb)).mono fun e w'' h => ⟨h.1, hb.trans (h.2.mono hb.size)⟩
  have hdd := hd
  -- the first reading: of what was written
  have HR1 : Hid (Small40 l → (traceB l).2 = 0 → ∀ w', Below w.heap.size w w' → Calls Tryd.prog 12 #[.string (bs (traceB l).1)] w' fun e w'' => (∃ B b, e = .returned (.tuple #[.slice B l.length b, .int .i64 0]) ∧ EvsAt w'' B l ∧ EvsAt w'' A l) ∧ Below w.heap.size w w'') :=
    Lib.hid fun hs hf w' hb => by
      have hlen : (traceB l).1.length ≤ 1000000000 := by
        unfold traceB at hf ⊢
        split
        · simp
        · unfold Wr.out
          split
          · have := foldT_len l (Wr.num ⟨[], 0⟩ l.length)
            have h2 := Wr.num_len ⟨[], 0⟩ l.length
            simp only [List.length_nil] at h2
            have h3 := hs.1
            show (traceW l).l.length ≤ _
            unfold traceW
            omega
          · simp
      have h := tread_any (traceB l).1 hlen w' (hd.below hb) (by have := hb.size; omega)
      rw [trace_read l hf] at h
      refine h.mono fun e w'' h => ?_
      obtain ⟨B, b, he, hB⟩ := h.1 rfl
      exact ⟨⟨B, b, he, hB, (ha.below hb).below h.2.2⟩, hb.trans (h.2.2.mono hb.size)⟩
  have HS : Hid (Small40 l → ∀ A B ca cb w', EvsAt w' A l → EvsAt w' B l → Below w.heap.size w w' → Calls Tryd.prog 14 #[.slice A l.length ca, .slice B l.length cb] w' fun e w'' => e = .returned (.bool true) ∧ Below w.heap.size w w'') :=
    Lib.hid fun hs A B ca cb w' ha hb' hb => (same35_any A B ca cb l (Nat.le_trans hs.1 (by omega)) w' ha hb').mono fun e w'' h => ⟨h.1, hb.trans (h.2.mono hb.size)⟩
  -- the second reading: of the text given
  have HR2 : Hid (¬ 9000 < (S.size : Int) → ∀ w', Below w.heap.size w w' → Calls Tryd.prog 12 #[.string S] w' fun e w'' => (∃ B b, e = .returned (.tuple #[.slice B (if (readT S.data.toList).2 = 0 then (readT S.data.toList).1 else []).length b, .int .i64 (readT S.data.toList).2]) ∧ EvsAt w'' B (if (readT S.data.toList).2 = 0 then (readT S.data.toList).1 else [])) ∧ Below w.heap.size w w'') :=
    Lib.hid fun hn w' hb => readT_post hb (tread_any S.data.toList (by have : S.data.toList.length = S.size := rfl; omega) w' (hd.below hb) (by have := hb.size; omega))
  have HT2 : Hid ((readT S.data.toList).2 = 0 → ∀ B b w', EvsAt w' B (if (readT S.data.toList).2 = 0 then (readT S.data.toList).1 else []) → Below w.heap.size w w' → Calls Tryd.prog 8 #[.slice B (if (readT S.data.toList).2 = 0 then (readT S.data.toList).1 else []).length b] w' fun e w'' => e = .returned (.tuple #[.string S, .int .i64 0]) ∧ Below w.heap.size w w'') :=
    Lib.hid fun hf B b w' hB hb => by
      rw [if_pos hf] at hB ⊢
      have h := tbytes_any B b (readT S.data.toList).1 (Nat.le_trans (readT_len _) (by omega)) w' (hd.below hb) hB
      unfold BytesTPost at h
      rw [read_trace S.data.toList hf] at h
      exact h.mono fun e w'' h => ⟨h.1, hb.trans (h.2.mono hb.size)⟩
  obtain ⟨T, hT⟩ : ∃ T, bs (traceB l).1 = T := ⟨_, rfl⟩
  obtain ⟨F, hF⟩ : ∃ F, (traceB l).2 = F := ⟨_, rfl⟩
  obtain ⟨L2, hL2⟩ : ∃ L, (if (readT S.data.toList).2 = 0 then (readT S.data.toList).1 else []) = L := ⟨_, rfl⟩
  obtain ⟨F2, hF2⟩ : ∃ F, (readT S.data.toList).2 = F := ⟨_, rfl⟩
  rw [hT, hF] at HT HR1
  rw [hL2, hF2] at HR2 HT2
  clear hd hdd ha hT hF hL2 hF2 hz
  -- what follows the first half
  have HSEC : Hid True := Lib.hid trivial
  obtain ⟨N, hN⟩ : ∃ N : Nat, l.length = N := ⟨_, rfl⟩
  rw [hN] at HG HT HR1 HS hl ⊢
  clear hN
  by_cases hn : 9000 < (S.size : Int)
  · clear HR2 HT2 HT HR1 HS
    go_enter Tryd.func5, Tryd.ntmps5
    go_wp2_with fail
    refine HG.out.mono ?_
    rintro e w1 ⟨g, rfl, hg, hb⟩
    have HB1 := Lib.hid hb
    clear hb
    cases g with
    | true =>
      clear hg
      go_wp2_with fail
      refine (HA.out _ HB1.out).mono ?_
      rintro e wz ⟨rfl, hb⟩
      have HBZ := Lib.hid hb
      clear hb
      go_wp2_with fail
      go_ret
      exact ⟨rfl, HBZ.out⟩
    | false =>
      clear hg
      go_wp2_with fail
      refine (HA.out _ HB1.out).mono ?_
      rintro e wz ⟨rfl, hb⟩
      have HBZ := Lib.hid hb
      clear hb
      go_wp2_with fail
      go_ret
      exact ⟨rfl, HBZ.out⟩
  · by_cases hF : F = 0
    · subst hF
      by_cases hF2 : F2 = 0
      · subst hF2
        go_enter Tryd.func5, Tryd.ntmps5
        go_wp2_with fail
        refine HG.out.mono ?_
        rintro e w1 ⟨g, rfl, hg, hb⟩
        have HB1 := Lib.hid hb
        clear hb
        cases g with
        | true =>
          clear hg
          go_wp2_with fail
          refine (HA.out _ HB1.out).mono ?_
          rintro e wz ⟨rfl, hb⟩
          have HBZ := Lib.hid hb
          clear hb
          go_wp2_with fail
          go_ret
          exact ⟨rfl, HBZ.out⟩
        | false =>
          have HSM := Lib.hid (hg rfl)
          clear hg
          go_wp2_with fail
          refine (HT.out HSM.out w1 HB1.out).mono ?_
          rintro e w2 ⟨rfl, hb⟩
          have HB2 := Lib.hid hb
          clear hb
          go_wp2_with fail
          refine (HR1.out HSM.out (by trivial) w2 HB2.out).mono ?_
          rintro e w3 ⟨⟨B, b, rfl, hB, hA⟩, hb⟩
          have HE3 := Lib.hid (And.intro hB hA)
          have HB3 := Lib.hid hb
          clear hb hB hA
          go_wp2_with fail
          refine (HS.out HSM.out B A _ _ _ HE3.out.1 HE3.out.2 HB3.out).mono ?_
          rintro e w4 ⟨rfl, hb⟩
          have HB4 := Lib.hid hb
          clear hb
          go_wp2_with fail
          refine (HR2.out hn _ HB4.out).mono ?_
          rintro e w5 ⟨⟨B2, b2, rfl, hB2⟩, hb⟩
          have HE5 := Lib.hid hB2
          have HB5 := Lib.hid hb
          clear hb hB2
          go_wp2_with fail
          refine (HT2.out (by trivial) B2 b2 _ HE5.out HB5.out).mono ?_
          rintro e w6 ⟨rfl, hb⟩
          have HB6 := Lib.hid hb
          clear hb
          go_wp2_with fail
          refine (HA.out _ HB6.out).mono ?_
          rintro e wz ⟨rfl, hb⟩
          have HBZ := Lib.hid hb
          clear hb
          go_wp2_with fail
          go_ret
          exact ⟨rfl, HBZ.out⟩
      · have hFb2 : (F2 == 0) = false := by simpa using hF2
        go_enter Tryd.func5, Tryd.ntmps5
        go_wp2_with fail
        refine HG.out.mono ?_
        rintro e w1 ⟨g, rfl, hg, hb⟩
        have HB1 := Lib.hid hb
        clear hb
        cases g with
        | true =>
          clear hg
          go_wp2_with fail
          refine (HA.out _ HB1.out).mono ?_
          rintro e wz ⟨rfl, hb⟩
          have HBZ := Lib.hid hb
          clear hb
          go_wp2_with fail
          go_ret
          exact ⟨rfl, HBZ.out⟩
        | false =>
          have HSM := Lib.hid (hg rfl)
          clear hg
          go_wp2_with fail
          refine (HT.out HSM.out w1 HB1.out).mono ?_
          rintro e w2 ⟨rfl, hb⟩
          have HB2 := Lib.hid hb
          clear hb
          go_wp2_with fail
          refine (HR1.out HSM.out (by trivial) w2 HB2.out).mono ?_
          rintro e w3 ⟨⟨B, b, rfl, hB, hA⟩, hb⟩
          have HE3 := Lib.hid (And.intro hB hA)
          have HB3 := Lib.hid hb
          clear hb hB hA
          go_wp2_with fail
          refine (HS.out HSM.out B A _ _ _ HE3.out.1 HE3.out.2 HB3.out).mono ?_
          rintro e w4 ⟨rfl, hb⟩
          have HB4 := Lib.hid hb
          clear hb
          go_wp2_with fail
          refine (HR2.out hn _ HB4.out).mono ?_
          rintro e w5 ⟨⟨B2, b2, rfl, hB2⟩, hb⟩
          have HE5 := Lib.hid hB2
          have HB5 := Lib.hid hb
          clear hb hB2
          go_wp2_with fail
          refine (HA.out _ HB5.out).mono ?_
          rintro e wz ⟨rfl, hb⟩
          have HBZ := Lib.hid hb
          clear hb
          go_wp2_with fail
          go_ret
          exact ⟨rfl, HBZ.out⟩
    · have hFb : (F == 0) = false := by simpa using hF
      by_cases hF2 : F2 = 0
      · subst hF2
        go_enter Tryd.func5, Tryd.ntmps5
        go_wp2_with fail
        refine HG.out.mono ?_
        rintro e w1 ⟨g, rfl, hg, hb⟩
        have HB1 := Lib.hid hb
        clear hb
        cases g with
        | true =>
          clear hg
          go_wp2_with fail
          refine (HA.out _ HB1.out).mono ?_
          rintro e wz ⟨rfl, hb⟩
          have HBZ := Lib.hid hb
          clear hb
          go_wp2_with fail
          go_ret
          exact ⟨rfl, HBZ.out⟩
        | false =>
          have HSM := Lib.hid (hg rfl)
          clear hg
          go_wp2_with fail
          refine (HT.out HSM.out w1 HB1.out).mono ?_
          rintro e w2 ⟨rfl, hb⟩
          have HB2 := Lib.hid hb
          clear hb
          go_wp2_with fail
          refine (HR2.out hn _ HB2.out).mono ?_
          rintro e w5 ⟨⟨B2, b2, rfl, hB2⟩, hb⟩
          have HE5 := Lib.hid hB2
          have HB5 := Lib.hid hb
          clear hb hB2
          go_wp2_with fail
          refine (HT2.out (by trivial) B2 b2 _ HE5.out HB5.out).mono ?_
          rintro e w6 ⟨rfl, hb⟩
          have HB6 := Lib.hid hb
          clear hb
          go_wp2_with fail
          refine (HA.out _ HB6.out).mono ?_
          rintro e wz ⟨rfl, hb⟩
          have HBZ := Lib.hid hb
          clear hb
          go_wp2_with fail
          go_ret
          exact ⟨rfl, HBZ.out⟩
      · have hFb2 : (F2 == 0) = false := by simpa using hF2
        go_enter Tryd.func5, Tryd.ntmps5
        go_wp2_with fail
        refine HG.out.mono ?_
        rintro e w1 ⟨g, rfl, hg, hb⟩
        have HB1 := Lib.hid hb
        clear hb
        cases g with
        | true =>
          clear hg
          go_wp2_with fail
          refine (HA.out _ HB1.out).mono ?_
          rintro e wz ⟨rfl, hb⟩
          have HBZ := Lib.hid hb
          clear hb
          go_wp2_with fail
          go_ret
          exact ⟨rfl, HBZ.out⟩
        | false =>
          have HSM := Lib.hid (hg rfl)
          clear hg
          go_wp2_with fail
          refine (HT.out HSM.out w1 HB1.out).mono ?_
          rintro e w2 ⟨rfl, hb⟩
          have HB2 := Lib.hid hb
          clear hb
          go_wp2_with fail
          refine (HR2.out hn _ HB2.out).mono ?_
          rintro e w5 ⟨⟨B2, b2, rfl, hB2⟩, hb⟩
          have HE5 := Lib.hid hB2
          have HB5 := Lib.hid hb
          clear hb hB2
          go_wp2_with fail
          refine (HA.out _ HB5.out).mono ?_
          rintro e wz ⟨rfl, hb⟩
          have HBZ := Lib.hid hb
          clear hb
          go_wp2_with fail
          go_ret
          exact ⟨rfl, HBZ.out⟩
end Go.Proofs.YtjmfdacnaodfdaaDoor
