/- package lines: an operation's line. -/
import Derived.StillTailTactics
import Derived.WalkSpells
import Derived.Deep.Cut
import Derived.Deep.RegionHeld3
import Derived.Lib.ItoaLen
import Derived.Lib.AppendIntMem
import Derived.Test.YtmeneoanmfpecaaDoorLineWord
namespace Go.Proofs.YtmeneoanmfpecaaDoor
set_option linter.unusedVariables false
set_option linter.unusedSimpArgs false
open Go.RowKit

def OpR.num (x : OpR) (i : Nat) : Int := [x.k, x.p, x.t, x.n, x.a, x.m].getD i 0
def OpR.text (x : OpR) (i : Nat) : ByteArray := if i = 6 then x.u else x.v
def OpR.numT (x : OpR) (i : Nat) : List UInt8 := 32 :: Lib.itoa (x.num i)
def OpR.textT (x : OpR) (i : Nat) : List UInt8 := 32 :: quoteL (x.text i).data.toList
/-- An operation's line, if it may be. -/
def lineM (x : OpR) : List UInt8 := (wordL.getD x.k.toNat [] ++ (numP x.k.toNat).flatMap x.numT) ++ (textP x.k.toNat).flatMap x.textT
def lineT (x : OpR) : List UInt8 := if checkM x = 0 then lineM x else []

theorem check_zero (x : OpR) (h : checkM x = 0) : (0 ≤ x.k ∧ x.k < 13) ∧ (0 ≤ x.p ∧ x.p ≤ 63 ∧ 0 ≤ x.t ∧ x.t ≤ 63) ∧ (0 ≤ x.n ∧ x.n ≤ 1073741824 ∧ 0 ≤ x.a ∧ x.a ≤ 1073741824 ∧ 0 ≤ x.m ∧ x.m ≤ 1073741824) ∧ x.u.size ≤ 255 ∧ x.v.size ≤ 255 ∧ spareM x = false := by
  unfold checkM at h
  split at h
  · omega
  rename_i h1
  split at h
  · omega
  rename_i h2
  split at h
  · omega
  rename_i h3
  split at h
  · omega
  rename_i h4
  split at h
  · omega
  rename_i h5
  simp only [kindB, peerB, numB, textB, Bool.not_eq_false, Bool.and_eq_true, decide_eq_true_eq, Bool.not_eq_true] at h1 h2 h3 h4 h5
  refine ⟨by omega, by omega, by omega, by omega, by omega, h5⟩

theorem flat_take {α : Type} (f : α → List UInt8) (l : List α) (k : Nat) (h : k < l.length) : (l.take (k + 1)).flatMap f = (l.take k).flatMap f ++ f l[k] := by
  rw [List.take_succ_eq_append_getElem h, List.flatMap_append]
  simp

theorem flat_le {α : Type} (f : α → List UInt8) (B : Nat) (l : List α) (h : ∀ x ∈ l, (f x).length ≤ B) : (l.flatMap f).length ≤ B * l.length := by
  induction l with
  | nil => simp
  | cons x l ih =>
    have h1 := h x (by simp)
    have h2 := ih fun y hy => h y (by simp [hy])
    simp only [List.flatMap_cons, List.length_append, List.length_cons]
    rw [Nat.mul_add, Nat.mul_one]
    omega

theorem numP_bd (k : Nat) : (numP k).length ≤ 5 ∧ ∀ i ∈ numP k, 1 ≤ i ∧ i ≤ 5 := by
  unfold numP
  split <;> decide
theorem textP_bd (k : Nat) : (textP k).length ≤ 2 ∧ ∀ i ∈ textP k, i = 6 ∨ i = 7 := by
  unfold textP
  split <;> decide
theorem word_bd (k : Nat) : (wordL.getD k []).length ≤ 7 := by
  have h : ∀ k : Fin 13, (wordL.getD k []).length ≤ 7 := by decide +kernel
  by_cases hk : k < 13
  · exact h ⟨k, hk⟩
  · rw [List.getD_eq_getElem?_getD, List.getElem?_eq_none (by simp [wordL]; omega)]
    simp

theorem num_range (x : OpR) (h : checkM x = 0) (i : Nat) (hi : i ≤ 5) : 0 ≤ x.num i ∧ x.num i ≤ 1073741824 := by
  obtain ⟨h1, h2, h3, -⟩ := check_zero x h
  have : i = 0 ∨ i = 1 ∨ i = 2 ∨ i = 3 ∨ i = 4 ∨ i = 5 := by omega
  unfold OpR.num
  rcases this with rfl | rfl | rfl | rfl | rfl | rfl <;> simp <;> omega
theorem numT_bd (x : OpR) (h : checkM x = 0) (i : Nat) (hi : i ≤ 5) : (x.numT i).length ≤ 22 := by
  have := num_range x h i hi
  have := Lib.itoa_length_le (x.num i) (by omega) (by omega)
  simp [OpR.numT]
  omega
theorem text_range (x : OpR) (h : checkM x = 0) (i : Nat) : (x.text i).size ≤ 255 := by
  obtain ⟨-, -, -, h4, h5, -⟩ := check_zero x h
  unfold OpR.text
  split <;> omega
theorem quoteL_bd (l : List UInt8) : (quoteL l).length ≤ 3 * l.length + 2 := by
  have := flat_len l
  simp [quoteL]
  simp at this
  omega
theorem textT_bd (x : OpR) (h : checkM x = 0) (i : Nat) : (x.textT i).length ≤ 800 := by
  have h1 := text_range x h i
  have h2 := quoteL_bd (x.text i).data.toList
  have h3 : (x.text i).data.toList.length = (x.text i).size := by simp
  simp only [OpR.textT, List.length_cons]
  omega

theorem cell_num (x : OpR) (w : World) (i : Nat) (hi : i ≤ 5) (t : TypeId) : (w.alloc (.cells x.cells t)).cell? ⟨w.heap.size, i, none⟩ = some (.int .i64 (x.num i)) := by
  have hbl : (w.alloc (.cells x.cells t)).heap[w.heap.size]? = some (.cells x.cells t (0, 0)) := World.alloc_heap_new _ _
  generalize w.alloc (.cells x.cells t) = w1 at hbl
  have : i = 0 ∨ i = 1 ∨ i = 2 ∨ i = 3 ∨ i = 4 ∨ i = 5 := by omega
  rcases this with rfl | rfl | rfl | rfl | rfl | rfl <;> simp [World.cell?, hbl, OpR.cells, OpR.num]
theorem cell_text (x : OpR) (w : World) (i : Nat) (hi : i = 6 ∨ i = 7) (t : TypeId) : (w.alloc (.cells x.cells t)).cell? ⟨w.heap.size, i, none⟩ = some (.string (x.text i)) := by
  have hbl : (w.alloc (.cells x.cells t)).heap[w.heap.size]? = some (.cells x.cells t (0, 0)) := World.alloc_heap_new _ _
  generalize w.alloc (.cells x.cells t) = w1 at hbl
  rcases hi with rfl | rfl <;> simp [World.cell?, hbl, OpR.cells, OpR.text]

theorem itoa_any (n : Int) (h0 : -9223372036854775808 ≤ n) (h1 : n ≤ 9223372036854775807) (w : World) (hd : Door w) :
    Calls Tryd.prog 72 #[.int .i64 n] w fun e w' => e = .returned (.string ⟨(Lib.itoa n).toArray⟩) ∧ Below w.heap.size w w' := by
  refine (Tryd.strconv_Itoa n h0 h1 w hd.pow).mono ?_
  rintro e w' ⟨rfl, k, os, rfl⟩
  exact ⟨rfl, Lib.below_grow _ _ (Nat.le_refl _) _ _⟩

set_option maxHeartbeats 4000000 in
set_option maxRecDepth 100000 in
theorem line_any (x : OpR) (w : World) (hd : Door w) :
    Calls Tryd.prog 42 #[.agg x.cells] w fun e w' => e = .returned (.tuple #[.string ⟨(lineT x).toArray⟩, .int .i64 (checkM x)]) ∧ Below w.heap.size w w' := by
  have HCK := Lib.hid (fun (w' : World) (hb : Below w.heap.size w w') => check_any x w' (hd.below hb).flds)
  obtain ⟨w1, hw1⟩ : ∃ W, w.alloc (.cells x.cells 30) = W := ⟨_, rfl⟩
  have hb1 : Below w.heap.size w w1 := by rw [← hw1]; exact (Below.refl _ _).alloc (Nat.le_refl _) _
  have hbl : w1.heap[w.heap.size]? = some (.cells x.cells 30 (0, 0)) := by rw [← hw1]; exact World.alloc_heap_new _ _
  have HCN : Hid (∀ i, i ≤ 5 → w1.cell? ⟨w.heap.size, i, none⟩ = some (.int .i64 (x.num i))) := fun i hi => by rw [← hw1]; exact cell_num x w i hi _
  have HCT : Hid (∀ i, i = 6 ∨ i = 7 → w1.cell? ⟨w.heap.size, i, none⟩ = some (.string (x.text i))) := fun i hi => by rw [← hw1]; exact cell_text x w i hi _
  have c0 : w1.cell? ⟨w.heap.size, 0, none⟩ = some (.int .i64 x.k) := HCN.out 0 (by decide)
  have c1 : w1.cell? ⟨w.heap.size, 1, none⟩ = some (.int .i64 x.p) := HCN.out 1 (by decide)
  have c2 : w1.cell? ⟨w.heap.size, 2, none⟩ = some (.int .i64 x.t) := HCN.out 2 (by decide)
  have c3 : w1.cell? ⟨w.heap.size, 3, none⟩ = some (.int .i64 x.n) := HCN.out 3 (by decide)
  have c4 : w1.cell? ⟨w.heap.size, 4, none⟩ = some (.int .i64 x.a) := HCN.out 4 (by decide)
  have c5 : w1.cell? ⟨w.heap.size, 5, none⟩ = some (.int .i64 x.m) := HCN.out 5 (by decide)
  have c6 : w1.cell? ⟨w.heap.size, 6, none⟩ = some (.string x.u) := HCT.out 6 (.inl rfl)
  have c7 : w1.cell? ⟨w.heap.size, 7, none⟩ = some (.string x.v) := HCT.out 7 (.inr rfl)
  obtain ⟨C, hC⟩ : ∃ C, checkM x = C := ⟨_, rfl⟩
  have HC := Lib.hid hC
  have HB1 := Lib.hid hb1
  have HD := Lib.hid hd
  have HX : Hid (x.cells = #[.int .i64 x.k, .int .i64 x.p, .int .i64 x.t, .int .i64 x.n, .int .i64 x.a, .int .i64 x.m, .string x.u, .string x.v]) := rfl
  by_cases h0 : C = 0
  · subst h0
    have HT : Hid (lineT x = lineM x) := by unfold lineT; rw [if_pos hC]; rfl
    have hz := check_zero x hC
    rw [hC, HT.out]
    have HK := Lib.hid (HCK.out w1 hb1)
    rw [hC, HX.out] at HK
    obtain ⟨K, hK⟩ := Int.eq_ofNat_of_zero_le hz.1.1
    have hK13 : K < 13 := by have := hz.1.2; omega
    have HKK := Lib.hid hK
    have hKn : x.k.toNat = K := by omega
    have hnb := numP_bd K
    have htb := textP_bd K
    have hwb := word_bd K
    have HL : Hid (lineM x = (wordL.getD K [] ++ (numP K).flatMap x.numT) ++ (textP K).flatMap x.textT) := by unfold lineM; rw [hKn]; rfl
    rw [HL.out]
    have HNR : Hid (∀ i, i ≤ 5 → 0 ≤ x.num i ∧ x.num i ≤ 1073741824 ∧ (x.numT i).length ≤ 22) := fun i hi => ⟨(num_range x hC i hi).1, (num_range x hC i hi).2, numT_bd x hC i hi⟩
    have HTR : Hid (∀ i, (x.text i).size ≤ 255 ∧ (x.textT i).length ≤ 800) := fun i => ⟨text_range x hC i, textT_bd x hC i⟩
    have HNU := Lib.hid (fun (w' : World) (hb : Below w1.heap.size w1 w') => by
      have h := numbers_any x.k hz.1.1 hz.1.2 w.heap.size w' (cell_below hb c0)
      rw [hKn] at h
      exact h)
    have HTX := Lib.hid (fun (w' : World) (hb : Below w1.heap.size w1 w') => by
      have h := texts_any x.k hz.1.1 hz.1.2 w.heap.size w' (cell_below hb c0)
      rw [hKn] at h
      exact h)
    have HWD := Lib.hid (fun (w' : World) (hb : Below w1.heap.size w1 w') => word_any K hK13 w' ((hd.below hb1).below hb))
    have HD1 := Lib.hid (hd.below hb1)
    have HC0 := Lib.hid c0
    obtain ⟨nl, hnl⟩ : ∃ l, numP K = l := ⟨_, rfl⟩
    obtain ⟨tl, htl⟩ : ∃ l, textP K = l := ⟨_, rfl⟩
    obtain ⟨W0, hW0⟩ : ∃ l, wordL.getD K [] = l := ⟨_, rfl⟩
    rw [hnl] at HNU hnb ⊢
    rw [htl] at HTX htb ⊢
    rw [hW0] at HWD hwb ⊢
    have HNB := Lib.hid hnb
    have HTB := Lib.hid htb
    have HWB := Lib.hid hwb
    rw [HX.out] at hw1 ⊢
    clear hC hb1 hd hbl hz hK hK13 hKn hnb htb hwb hnl htl hW0 HT HL HCK
    go_enter Tryd.func42, Tryd.ntmps42
    go_wp2_with fail
    refine HK.out.mono ?_
    rintro e w2 ⟨rfl, hb⟩
    have hk2 : w2.cell? ⟨w.heap.size, 0, none⟩ = some (.int .i64 K) := by rw [cell_below hb HC0.out, HKK.out]
    have HB2 := Lib.hid hb
    clear hb c0 c1 c2 c3 c4 c5 c6 c7
    go_wp2_with fail
    refine (HWD.out w2 HB2.out).mono ?_
    rintro e w3 ⟨rfl, hb⟩
    have HB3 := Lib.hid (HB2.out.trans (hb.mono HB2.out.size))
    clear hb HB2 hk2
    go_wp2_with fail
    refine (HNU.out w3 HB3.out).mono ?_
    rintro e w4 ⟨g, cc, rfl, hcells, hb⟩
    have HB4 := Lib.hid (HB3.out.trans (hb.mono HB3.out.size))
    have HG := Lib.hid hcells
    clear hb HB3 hcells
    go_wp2_with fail
    have HLEN : Hid (∀ k, k ≤ nl.length → (W0 ++ (nl.take k).flatMap x.numT).length ≤ 7 + 22 * 5) := fun k hk => by
      have h1 := flat_le x.numT 22 (nl.take k) (fun i hi => (HNR.out i (HNB.out.2 i (List.mem_of_mem_take hi)).2).2.2)
      have h2 := List.length_take_le k nl
      have := HNB.out.1
      have := HWB.out
      rw [List.length_append]
      omega
    go_loopg [5, 7, 20] nl.length (fun n t5 t7 t20 wr => ∃ k : Nat, Hid (n = nl.length - k ∧ k ≤ nl.length) ∧ t20 = .int .i64 k ∧ t5 = .string ⟨(W0 ++ (nl.take k).flatMap x.numT).toArray⟩ ∧ Hid (Below w4.heap.size w4 wr))
    case atStart => exact ⟨0, ⟨rfl, Nat.zero_le _⟩, rfl, by simp, Below.refl _ _⟩
    case round =>
      obtain ⟨k, HN, rfl, rfl, HB⟩ := hrel
      by_cases hlt : k < nl.length
      · have hlt' : (k : Int) < nl.length := by omega
        have hn5 : (nl.length : Int) ≤ 5 := by have := HNB.out.1; omega
        obtain ⟨i, hi⟩ : ∃ i, nl[k]'hlt = i := ⟨_, rfl⟩
        have hi5 : i ≤ 5 := (HNB.out.2 i (by rw [← hi]; exact List.getElem_mem hlt)).2
        have hp : wr.cell? ⟨g, k, none⟩ = some (.pointer (some ⟨w.heap.size, i, none⟩)) := by rw [cell_below HB.out (HG.out k hlt), hi]
        have hv : wr.cell? ⟨w.heap.size, i, none⟩ = some (.int .i64 (x.num i)) := cell_below HB.out (cell_below HB4.out (HCN.out i hi5))
        have hr := HNR.out i hi5
        have HI := Lib.hid (itoa_any (x.num i) (by omega) (by omega) wr ((HD1.out.below HB4.out).below HB.out))
        have h1 := HLEN.out k HN.out.2
        have h2 : (x.numT i).length = 1 + (Lib.itoa (x.num i)).length := by simp [OpR.numT, Nat.add_comm]
        obtain ⟨t, ht⟩ : ∃ t : ByteArray, ⟨(W0 ++ (nl.take k).flatMap x.numT).toArray⟩ = t := ⟨_, rfl⟩
        have htz : t.size ≤ 117 := by rw [← ht]; exact h1
        obtain ⟨o, ho⟩ : ∃ o : ByteArray, ⟨(Lib.itoa (x.num i)).toArray⟩ = o := ⟨_, rfl⟩
        have hoz : o.size ≤ 22 := by rw [← ho]; show (Lib.itoa (x.num i)).length ≤ 22; omega
        have hnext : t ++ ((⟨#[32]⟩ : ByteArray) ++ o) = ⟨(W0 ++ (nl.take (k + 1)).flatMap x.numT).toArray⟩ := by
          rw [flat_take x.numT nl k hlt, hi, ← ht, ← ho]
          apply ByteArray.ext
          simp [OpR.numT]
        have hsz : ((⟨#[32]⟩ : ByteArray) ++ o).size ≤ 23 := by rw [ByteArray.size_append]; show 1 + o.size ≤ 23; omega
        have hadd1 : ¬ 9223372036854775807 < 1 + o.size := by omega
        obtain ⟨so, hso⟩ : ∃ so : ByteArray, (⟨#[32]⟩ : ByteArray) ++ o = so := ⟨_, rfl⟩
        have HSO := Lib.hid hso
        rw [hso] at hsz hnext
        have hadd2 : ¬ 9223372036854775807 < t.size + so.size := by omega
        rw [ht]
        rw [ho] at HI
        obtain ⟨q, hq⟩ : ∃ q, x.num i = q := ⟨_, rfl⟩
        rw [hq] at hv HI
        have HNX := Lib.hid hnext
        clear hr h1 h2 ht htz ho hoz hnext hsz hi hi5 hq
        go_wp2_with fail
        refine HI.out.mono ?_
        rintro e w5 ⟨rfl, hb⟩
        have HB5 := Lib.hid (HB.out.trans (hb.mono HB.out.size))
        clear hb hp hv
        go_wp2_with fail
        go_roundg (nl.length - (k + 1))
        case rel => exact ⟨k + 1, ⟨rfl, hlt⟩, by go_num, by rw [← HNX.out], HB5⟩
        case measure => have := HN.out; omega
      · have hlt' : ¬ (k : Int) < nl.length := by omega
        have hk : k = nl.length := by have := HN.out; omega
        subst hk
        have HL1 := HLEN.out nl.length (Nat.le_refl _)
        rw [List.take_length] at HL1 ⊢
        obtain ⟨P, hP⟩ : ∃ l, W0 ++ nl.flatMap x.numT = l := ⟨_, rfl⟩
        rw [hP] at HL1 ⊢
        have HPL := Lib.hid HL1
        have HPE := Lib.hid hP
        obtain ⟨t, ht⟩ : ∃ t : ByteArray, ⟨P.toArray⟩ = t := ⟨_, rfl⟩
        have HT0 := Lib.hid ht
        rw [ht]
        obtain ⟨wA, hwA⟩ : ∃ W, W = wr := ⟨_, rfl⟩
        subst hwA
        have HB6 := Lib.hid (HB4.out.trans (HB.out.mono HB4.out.size))
        clear HL1 hP ht
        go_wp2_with fail
        refine (HTX.out wA HB6.out).mono ?_
        rintro e w6 ⟨g2, c2, rfl, hcells, hb⟩
        have HB7 := Lib.hid (HB6.out.trans (hb.mono HB6.out.size))
        have HG2 := Lib.hid hcells
        clear hb HB hcells hlt hlt'
        go_wp2_with fail
        have HLEN2 : Hid (∀ k, k ≤ tl.length → (P ++ (tl.take k).flatMap x.textT).length ≤ 117 + 800 * 2) := fun k hk => by
          have h1 := flat_le x.textT 800 (tl.take k) (fun i hi => (HTR.out i).2)
          have h2 := List.length_take_le k tl
          have := HTB.out.1
          have := HPL.out
          rw [List.length_append]
          omega
        go_loopg [5, 9, 34] tl.length (fun n t5 t9 t34 wr => ∃ k : Nat, Hid (n = tl.length - k ∧ k ≤ tl.length) ∧ t34 = .int .i64 k ∧ t5 = .string ⟨(P ++ (tl.take k).flatMap x.textT).toArray⟩ ∧ Hid (Below w6.heap.size w6 wr))
        case atStart => exact ⟨0, ⟨rfl, Nat.zero_le _⟩, rfl, by rw [← HT0.out]; simp, Below.refl _ _⟩
        case round =>
          obtain ⟨k, HN2, rfl, rfl, HB⟩ := hrel
          by_cases hlt : k < tl.length
          · have hlt' : (k : Int) < tl.length := by omega
            have hn2 : (tl.length : Int) ≤ 2 := by have := HTB.out.1; omega
            obtain ⟨i, hi⟩ : ∃ i, tl[k]'hlt = i := ⟨_, rfl⟩
            have hi67 : i = 6 ∨ i = 7 := HTB.out.2 i (by rw [← hi]; exact List.getElem_mem hlt)
            have hp : wr.cell? ⟨g2, k, none⟩ = some (.pointer (some ⟨w.heap.size, i, none⟩)) := by rw [cell_below HB.out (HG2.out k hlt), hi]
            have hv : wr.cell? ⟨w.heap.size, i, none⟩ = some (.string (x.text i)) := cell_below HB.out (cell_below HB7.out (HCT.out i hi67))
            have hr := HTR.out i
            have HI := Lib.hid (quote_any (x.text i) (by omega) wr)
            have h1 := HLEN2.out k HN2.out.2
            have h2 : (x.textT i).length = 1 + (quoteL (x.text i).data.toList).length := by simp [OpR.textT, Nat.add_comm]
            obtain ⟨t, ht⟩ : ∃ t : ByteArray, ⟨(P ++ (tl.take k).flatMap x.textT).toArray⟩ = t := ⟨_, rfl⟩
            have htz : t.size ≤ 1717 := by rw [← ht]; exact h1
            obtain ⟨o, ho⟩ : ∃ o : ByteArray, ⟨(quoteL (x.text i).data.toList).toArray⟩ = o := ⟨_, rfl⟩
            have hoz : o.size ≤ 800 := by rw [← ho]; show (quoteL (x.text i).data.toList).length ≤ 800; omega
            have hnext : t ++ ((⟨#[32]⟩ : ByteArray) ++ o) = ⟨(P ++ (tl.take (k + 1)).flatMap x.textT).toArray⟩ := by
              rw [flat_take x.textT tl k hlt, hi, ← ht, ← ho]
              apply ByteArray.ext
              simp [OpR.textT]
            have hsz : ((⟨#[32]⟩ : ByteArray) ++ o).size ≤ 801 := by rw [ByteArray.size_append]; show 1 + o.size ≤ 801; omega
            have hadd1 : ¬ 9223372036854775807 < 1 + o.size := by omega
            obtain ⟨so, hso⟩ : ∃ so : ByteArray, (⟨#[32]⟩ : ByteArray) ++ o = so := ⟨_, rfl⟩
            have HSO := Lib.hid hso
            rw [hso] at hsz hnext
            have hadd2 : ¬ 9223372036854775807 < t.size + so.size := by omega
            rw [ht]
            rw [ho] at HI
            obtain ⟨q, hq⟩ : ∃ q, x.text i = q := ⟨_, rfl⟩
            rw [hq] at hv HI
            have HNX := Lib.hid hnext
            clear hr h1 h2 ht htz ho hoz hnext hsz hi hi67 hq
            go_wp2_with fail
            refine HI.out.mono ?_
            rintro e w8 ⟨rfl, hb⟩
            have HB8 := Lib.hid (HB.out.trans (hb.mono HB.out.size))
            clear hb hp hv
            go_wp2_with fail
            go_roundg (tl.length - (k + 1))
            case rel => exact ⟨k + 1, ⟨rfl, hlt⟩, by go_num, by rw [← HNX.out], HB8⟩
            case measure => have := HN2.out; omega
          · have hlt' : ¬ (k : Int) < tl.length := by omega
            have hk : k = tl.length := by have := HN2.out; omega
            subst hk
            rw [List.take_length]
            go_wp2_with fail
            go_ret2
            exact ⟨by rw [← List.append_assoc, HPE.out]; rfl, HB1.out.trans ((HB7.out.trans (HB.out.mono HB7.out.size)).mono HB1.out.size)⟩
  · have HT : Hid (lineT x = []) := by unfold lineT; rw [if_neg (by rw [hC]; exact h0)]; rfl
    rw [hC, HT.out]
    have HK := Lib.hid (HCK.out w1 hb1)
    rw [hC] at HK
    rw [HX.out] at HK hw1 ⊢
    clear hC hb1 hd hbl
    go_enter Tryd.func42, Tryd.ntmps42
    go_wp2_with fail
    refine HK.out.mono ?_
    rintro e w' ⟨rfl, hb⟩
    have HB2 := Lib.hid (HB1.out.trans (hb.mono HB1.out.size))
    clear hb
    go_wp2_with fail
    go_ret2
    exact ⟨rfl, HB2.out⟩
end Go.Proofs.YtmeneoanmfpecaaDoor
