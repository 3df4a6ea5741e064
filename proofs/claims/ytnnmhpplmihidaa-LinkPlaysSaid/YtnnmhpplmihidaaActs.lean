/- The operations of layer 26's laws, read; great. -/
import Derived.Deep.LoopGhost
import Derived.Test.YtnnmhpplmihidaaOpen7
import Derived.WalkKit
import Derived.SizedLaws
import Derived.Lib.Hide
namespace Go.Proofs.Ytnnmhpplmihidaa
set_option linter.unusedVariables false
set_option linter.unusedSimpArgs false
open Go.RowKit Go.ChangeShapes Go.WideShapes Go.Deep

structure ActV where
  k : Int
  f : Int
  t : Int
  i : Int
  a : Int
  mask : Nat
  s : ByteArray
def ActAt (w : World) (p : Addr) (x : ActV) : Prop :=
  w.cell? p = some (.int .i64 x.k) ∧ w.cell? ⟨p.block, p.off + 1, none⟩ = some (.int .i64 x.f) ∧ w.cell? ⟨p.block, p.off + 2, none⟩ = some (.int .i64 x.t) ∧ w.cell? ⟨p.block, p.off + 3, none⟩ = some (.int .i64 x.i) ∧
  w.cell? ⟨p.block, p.off + 4, none⟩ = some (.int .i64 x.a) ∧ w.cell? ⟨p.block, p.off + 5, none⟩ = some (.int .u32 x.mask) ∧ w.cell? ⟨p.block, p.off + 6, none⟩ = some (.string x.s)
def ActsAt (w : World) (A : Option Addr) (l : List ActV) : Prop := ∀ j (hj : j < l.length), ∃ a, A = some a ∧ ActAt w (a.add (j * 7)) l[j]
def ActsOk (l : List ActV) : Prop := ∀ x ∈ l, x.mask < 4294967296 ∧ x.s.size ≤ 140737488351232
def ActsI (l : List ActV) : Prop := ∀ x ∈ l, x.i < 9223372036854775808
def sumS (l : List ActV) : Nat := (l.map fun x => x.s.size).sum

theorem ActsAt.below {B : Nat} {w w' : World} {A : Option Addr} {l : List ActV} (h : ActsAt w A l) (hb : Below B w w') (hB : B = w.heap.size) : ActsAt w' A l := by
  subst hB
  intro j hj
  obtain ⟨a, e, h0, h1, h2, h3, h4, h5, h6⟩ := h j hj
  have K : ∀ p u, w.cell? p = some u → w'.cell? p = some u := by
    intro p u hp
    have hlt : p.block < w.heap.size := by
      rcases Nat.lt_or_ge p.block w.heap.size with h | h
      · exact h
      · simp [World.cell?, Array.getElem?_eq_none h] at hp
    unfold World.cell? at hp ⊢
    rw [hb.block _ hlt]
    exact hp
  exact ⟨a, e, K _ _ h0, K _ _ h1, K _ _ h2, K _ _ h3, K _ _ h4, K _ _ h5, K _ _ h6⟩

theorem sumS_succ {l : List ActV} {k : Nat} (h : k < l.length) : sumS (l.take (k + 1)) = sumS (l.take k) + l[k].s.size := by
  unfold sumS
  rw [List.take_succ_eq_append_getElem h, List.map_append, List.sum_append]
  simp only [List.map_cons, List.map_nil, List.sum_cons, List.sum_nil]
  omega

def GreatOk (l : List ActV) (e : Ending) : Prop := ∃ b, e = .returned (.bool b) ∧ (b = false → l.length ≤ 80 ∧ sumS l ≤ 300000)

set_option maxHeartbeats 2000000 in
set_option maxRecDepth 100000 in
theorem great26 (A : Option Addr) (c : Nat) (l : List ActV) (w : World) (h : ActsAt w A l) (hok : ActsOk l) (hl : l.length ≤ maxLen) :
    Calls Try.prog 26 #[.slice A l.length c] w fun e w' => GreatOk l e ∧ w = w' := by
  have HA := Lib.hid h
  have HO := Lib.hid hok
  have HL := Lib.hid hl
  clear h hok hl
  go_enter Try.func26, Try.ntmps26
  go_wp2
  go_loopg [3, 4] l.length (fun n t3 t4 wr => ∃ k : Nat, n = l.length - k ∧ k ≤ l.length ∧ t3 = .int .i64 (sumS (l.take k)) ∧ t4 = .int .i64 k ∧ k ≤ 80 ∧ Hid (sumS (l.take k) ≤ 300000) ∧ w = wr)
  case atStart => exact ⟨0, rfl, Nat.zero_le _, by simp [sumS], rfl, by omega, by simp [Hid, sumS], rfl⟩
  case round =>
    obtain ⟨k, hn, hk, rfl, rfl, h80, HS, rfl⟩ := hrel
    by_cases hlt : k < l.length
    · obtain ⟨a, rfl, h0, h1, h2, h3, h4, h5, h6⟩ := HA.out k hlt
      have hsz := (HO.out l[k] (List.getElem_mem hlt)).2
      obtain ⟨z, hz⟩ : ∃ z, l[k].s = z := ⟨_, rfl⟩
      rw [hz] at h6 hsz
      obtain ⟨S, hS⟩ : ∃ S, sumS (l.take k) = S := ⟨_, rfl⟩
      have hs1 := sumS_succ hlt
      rw [hz, hS] at hs1
      have HS' := HS.out
      rw [hS] at HS' ⊢
      have HZ := Lib.hid hs1
      have HN := Lib.hid hn
      have hlt' : (k : Int) < l.length := by omega
      have hw : wrap64 ((S : Int) + z.size) = (S : Int) + z.size := by unfold wrap64; omega
      clear hz hS hs1 hn h0 h1 h2 h3 h4 h5
      by_cases c1 : k ≥ 80
      · have c1' : (80 : Int) ≤ k := by omega
        go_wp2
        go_ret
        exact ⟨⟨true, rfl, fun h => (by cases h)⟩, rfl⟩
      · have c1' : ¬ (80 : Int) ≤ k := by omega
        by_cases c2 : S + z.size > 300000
        · have c2' : (300000 : Int) < S + z.size := by omega
          go_wp2
          go_ret
          exact ⟨⟨true, rfl, fun h => (by cases h)⟩, rfl⟩
        · have c2' : ¬ (300000 : Int) < S + z.size := by omega
          go_wp2
          go_roundg (l.length - (k + 1))
          case rel => exact ⟨k + 1, rfl, hlt, by rw [HZ.out]; simp, by go_num, by omega, by rw [HZ.out]; exact Nat.le_of_not_lt c2, rfl⟩
          case measure => have := HN.out; omega
    · have hlt' : ¬ (k : Int) < l.length := by omega
      have hke : k = l.length := by omega
      have HK := Lib.hid hke
      clear hn hke
      go_wp2
      go_ret
      have e := HK.out
      have hs := HS.out
      rw [e, List.take_length] at hs
      exact ⟨⟨false, rfl, fun _ => ⟨(by omega), hs⟩⟩, rfl⟩

theorem add_field' (ad : Addr) (m j : Nat) (hj : 0 < j) : ad.add (m + j) = ⟨(ad.add m).block, (ad.add m).off + j, none⟩ := by
  unfold Addr.add
  by_cases hm : m = 0
  · subst hm
    simp [Nat.ne_of_gt hj]
  · simp [hm, Nat.add_assoc]

theorem weights_mem_all {H : Type} {P : Program} {e : TypeId} : ∀ {ds : List (DataW H)} {d : DataW H}, d ∈ ds → ∀ {n : Nat}, n ∈ d.weights P e → n ∈ DataW.weightsAll P e ds
  | d0 :: ds, d, hd, n, hn => by
    simp only [DataW.weightsAll, List.mem_append]
    rcases List.mem_cons.1 hd with rfl | h
    · exact .inl hn
    · exact .inr (weights_mem_all h hn)

theorem list_of {α : Type} (R : Nat → α → Prop) (n : Nat) (h : ∀ i, i < n → ∃ x, R i x) : ∃ l : List α, l.length = n ∧ ∀ j (hj : j < l.length), R j l[j] := by
  induction n with
  | zero => exact ⟨[], rfl, fun j hj => by simp at hj⟩
  | succ n ih =>
    obtain ⟨l, hl, hr⟩ := ih (fun i hi => h i (by omega))
    obtain ⟨x, hx⟩ := h n (by omega)
    refine ⟨l ++ [x], by simp [hl], fun j hj => ?_⟩
    by_cases e : j < l.length
    · rw [List.getElem_append_left e]
      exact hr j e
    · have e' : j = l.length := by simp at hj; omega
      subst e'
      simp
      rw [hl]
      exact hx

set_option maxRecDepth 100000 in
/-- The argument that is a slice of Acts. -/
theorem open_acts {H : Type} {enc : TypeId × Value → H} {w : World} {base b0 : Nat} {spare : Nat → Bool} {held : Bool} {v : Value} {d : DataW H} {p : List MemPlace}
    (hv : Value.okWide Try.prog w .any b0 43 v) (h : DataW.Trod enc Try.prog w base spare held 43 v d p) (hw : ∀ n ∈ d.weights Try.prog 43, n ≤ reachBytes) :
    ∃ A c l, v = .slice A (List.length (α := ActV) l) c ∧ ActsAt w A l ∧ ActsOk l ∧ l.length ≤ maxLen ∧ ActsI l := by
  obtain ⟨fuel, hf⟩ := h
  obtain ⟨A0, n0, c0, rfl⟩ := okWide_slice Try.underlying43 hv
  rcases open_slice_fields Try.underlying43 Try.underlying50 (by kernel_rfl) (by kernel_rfl) hf with ⟨hc, _⟩ | ⟨a, len, cap, m, D, Pl, hc, _, hlc, hcm, hm, hx, hi⟩
  · simp [Value.cells] at hc
    obtain ⟨rfl, rfl, rfl⟩ := hc
    exact ⟨none, 0, [], rfl, fun j hj => by simp at hj, fun x hx => by simp at hx, by simp [maxLen], fun x hx => by simp at hx⟩
  · simp [Value.cells] at hc
    obtain ⟨rfl, rfl, rfl⟩ := hc
    have key : ∀ i, i < n0 → ∃ x : ActV, ActAt w (a.add (i * 7)) x ∧ x.mask < 4294967296 ∧ x.s.size ≤ 140737488351232 ∧ x.i < 9223372036854775808 := by
      intro i hin
      obtain ⟨ys, n, hDi, _, _, hfld⟩ := hi i (by rw [hm]; split <;> omega)
      obtain ⟨v0, y0, c0, _, t0⟩ := hfld 0 _ rfl
      obtain ⟨v1, y1, c1, _, t1⟩ := hfld 1 _ rfl
      obtain ⟨v2, y2, c2, _, t2⟩ := hfld 2 _ rfl
      obtain ⟨v3, y3, c3, _, t3⟩ := hfld 3 _ rfl
      obtain ⟨v4, y4, c4, _, t4⟩ := hfld 4 _ rfl
      obtain ⟨v5, y5, c5, _, t5⟩ := hfld 5 _ rfl
      obtain ⟨v6, y6, c6, hy6, t6⟩ := hfld 6 _ rfl
      obtain ⟨a0, h0, _, w0⟩ := DataW.trod_int Try.underlying3 t0
      obtain ⟨a1, h1, _, w1⟩ := DataW.trod_int Try.underlying3 t1
      obtain ⟨a2, h2, _, w2⟩ := DataW.trod_int Try.underlying3 t2
      obtain ⟨a3, h3, _, w3⟩ := DataW.trod_int Try.underlying3 t3
      obtain ⟨a4, h4, _, w4⟩ := DataW.trod_int Try.underlying3 t4
      obtain ⟨a5, h5, _, w5⟩ := DataW.trod_int Try.underlying48 t5
      obtain ⟨s, h6, hyy, w6⟩ := DataW.trod_string Try.underlying9 t6
      simp at h0 h1 h2 h3 h4 h5 h6
      subst h0 h1 h2 h3 h4 h5 h6
      have hsz : s.size ≤ 140737488351232 := by
        have hn : s.data.toList.length ≤ reachBytes := by
          refine hw _ ?_
          have hd : d = .slice ((List.range n0).map D) ((List.range (m - n0)).map fun j => D (n0 + j)) := (Prod.mk.inj hx).1
          rw [hd]
          simp only [DataW.weights, Try.underlying43]
          refine List.mem_cons_of_mem _ (List.mem_append_left _ (weights_mem_all (List.mem_map.2 ⟨i, List.mem_range.2 hin, rfl⟩) ?_))
          rw [hDi]
          simp only [DataW.weights, Try.underlying50]
          refine DataW.weights_mem_each (j := 6) (t := 9) (d := .lit (.string s.data.toList)) rfl ?_ _ (by simp [DataW.weights])
          rw [List.getElem?_map, hy6, hyy]
          rfl
        have e : s.data.toList.length = s.size := by simp
        rw [e] at hn
        exact hn
      have hw : 0 ≤ a5 ∧ a5 < 4294967296 := by
        simp [Lit.wf, IntKind.min, IntKind.max, IntKind.signed, IntKind.bits] at w5
        omega
      have hi3 : a3 < 9223372036854775808 := by
        simp [Lit.wf, IntKind.min, IntKind.max, IntKind.signed, IntKind.bits] at w3
        omega
      obtain ⟨m5, rfl⟩ := Int.eq_ofNat_of_zero_le hw.1
      refine ⟨⟨a0, a1, a2, a3, a4, m5, s⟩, ⟨c0, ?_, ?_, ?_, ?_, ?_, ?_⟩, by have := hw.2; show m5 < _; omega, hsz, hi3⟩
      · rw [← add_field' _ _ 1 (by omega)]; exact c1
      · rw [← add_field' _ _ 2 (by omega)]; exact c2
      · rw [← add_field' _ _ 3 (by omega)]; exact c3
      · rw [← add_field' _ _ 4 (by omega)]; exact c4
      · rw [← add_field' _ _ 5 (by omega)]; exact c5
      · rw [← add_field' _ _ 6 (by omega)]; exact c6
    obtain ⟨l, hl, hat⟩ := list_of (fun i (x : ActV) => ActAt w (a.add (i * 7)) x ∧ x.mask < 4294967296 ∧ x.s.size ≤ 140737488351232 ∧ x.i < 9223372036854775808) n0 key
    refine ⟨some a, c0, l, by rw [hl], fun j hj => ⟨a, rfl, (hat j hj).1⟩, fun x hx => ?_, by rw [hl]; omega, fun x hx => ?_⟩
    · obtain ⟨j, hj, rfl⟩ := List.getElem_of_mem hx
      exact ⟨(hat j hj).2.1, (hat j hj).2.2.1⟩
    · obtain ⟨j, hj, rfl⟩ := List.getElem_of_mem hx
      exact (hat j hj).2.2.2
end Go.Proofs.Ytnnmhpplmihidaa
