/- package show: an entry's text, and the document's. -/
import Derived.Test.YtmeneoanmfpecaaDoorShow2
namespace Go.Proofs.YtmeneoanmfpecaaDoor
set_option linter.unusedVariables false
set_option linter.unusedSimpArgs false
open Go.RowKit

/-- A row of versions that can be read. -/
def VersAt (w : World) (A : Option Addr) (L : List VerR) : Prop := ∀ j (hj : j < L.length), ∃ a, A = some a ∧ w.cell? (a.add (j * 5)) = some (.int .i64 L[j].dp) ∧ w.cell? ⟨(a.add (j * 5)).block, (a.add (j * 5)).off + 1, none⟩ = some (.int .i64 L[j].dc)
  ∧ w.cell? ⟨(a.add (j * 5)).block, (a.add (j * 5)).off + 2, none⟩ = some (.slice L[j].A L[j].past.length L[j].c) ∧ w.cell? ⟨(a.add (j * 5)).block, (a.add (j * 5)).off + 3, none⟩ = some (.bool L[j].dead) ∧ w.cell? ⟨(a.add (j * 5)).block, (a.add (j * 5)).off + 4, none⟩ = some (.string L[j].data) ∧ DotsAt w L[j].A L[j].past
theorem VersAt.below {w w' : World} {A : Option Addr} {L : List VerR} (h : VersAt w A L) (hb : Below w.heap.size w w') : VersAt w' A L := fun j hj => by
  obtain ⟨a, e, h0, h1, h2, h3, h4, h5⟩ := h j hj
  exact ⟨a, e, cell_below hb h0, cell_below hb h1, cell_below hb h2, cell_below hb h3, cell_below hb h4, h5.below hb⟩
structure VersOk (L : List VerR) : Prop where
  len : L.length ≤ 1000
  each : ∀ x ∈ L, x.Ok
  data : ∀ x ∈ L, x.data.size ≤ 10000

def verAt (L : List VerR) (i : Nat) : List UInt8 := (L[i]?.map verT).getD []
/-- An entry's text, so far. -/
def entP (p : List UInt8) (L : List VerR) (k : Nat) : List UInt8 := quoteL p ++ if k = 0 then [] else [58, 32] ++ joinT [59, 32] (verAt L) k
def entT (p : List UInt8) (L : List VerR) : List UInt8 := entP p L L.length

theorem verT_bd (x : VerR) (hx : x.Ok) (hd : x.data.size ≤ 10000) : (verT x).length ≤ 74050 := by
  have h1 := dotT_bd x.dp x.dc hx.dp hx.dc
  have h2 := vecT_bd x.past hx.past
  have h3 := hx.len
  have h4 : (whatT x).length ≤ 30002 := by
    unfold whatT
    split
    · decide
    · have h := quoteL_bd x.data.data.toList
      have h2 : x.data.data.toList.length = x.data.size := by simp
      omega
  simp only [verT, List.length_append, List.length_cons, List.length_nil]
  omega
theorem verAt_eq (L : List VerR) (i : Nat) (h : i < L.length) : verAt L i = verT L[i] := by simp [verAt, List.getElem?_eq_getElem h]
theorem verAt_bd (L : List VerR) (hok : VersOk L) (i : Nat) (h : i < L.length) : (verAt L i).length ≤ 74050 := by
  rw [verAt_eq L i h]
  exact verT_bd _ (hok.each _ (List.getElem_mem h)) (hok.data _ (List.getElem_mem h))
theorem joinV_bd (L : List VerR) (hok : VersOk L) (k : Nat) (h : k ≤ L.length) : (joinT [59, 32] (verAt L) k).length ≤ 74052 * k :=
  joinT_bd [59, 32] (verAt L) 74052 k (fun i hi => by have := verAt_bd L hok i (by omega); simp; omega)

set_option maxHeartbeats 2000000 in
set_option maxRecDepth 100000 in
theorem entry1_any (A : Option Addr) (c : Nat) (L : List VerR) (hok : VersOk L) (b0 : Nat) (i : Nat) (hi : i < L.length) (w : World) (hd : Door w) (hl : VersAt w A L)
    (hb0 : w.cell? ⟨b0, 1, none⟩ = some (.slice A L.length c)) :
    Calls Tryd.prog 81 (#[.int .i64 i] ++ #[.pointer (some ⟨b0, 0, none⟩)]) w fun e w2 => e = .returned (.string ⟨(verAt L i).toArray⟩) ∧ Below w.heap.size w w2 := by
  obtain ⟨a, rfl, d0, d1, d2, d3, d4, hp⟩ := hl i hi
  have hx := hok.each L[i] (List.getElem_mem hi)
  rw [verAt_eq L i hi]
  have HC := Lib.hid (version_any L[i] hx w hd hp)
  obtain ⟨x, hxx⟩ : ∃ x, L[i] = x := ⟨_, rfl⟩
  rw [hxx] at d0 d1 d2 d3 d4 HC ⊢
  have hi' : (i : Int) < L.length := by omega
  obtain ⟨R, hR⟩ : ∃ R : ByteArray, ⟨(verT x).toArray⟩ = R := ⟨_, rfl⟩
  rw [hR] at HC ⊢
  obtain ⟨n, hn⟩ : ∃ n, L.length = n := ⟨_, rfl⟩
  rw [hn] at hi' hb0
  obtain ⟨dp, dc, A1, c1, past, dead, data⟩ := x
  simp only [VerR.cells] at HC
  obtain ⟨pl, hpl⟩ : ∃ n, past.length = n := ⟨_, rfl⟩
  simp only at d0 d1 d2 d3 d4
  rw [hpl] at HC d2
  clear hl hok hx hd hi hp hxx hR hn hpl
  show Calls Tryd.prog 81 #[.int .i64 i, .pointer (some ⟨b0, 0, none⟩)] w _
  go_enter Tryd.func81, Tryd.ntmps81
  go_wp2_with fail
  refine HC.out.mono ?_
  rintro e w' ⟨rfl, hb⟩
  have HB := Lib.hid hb
  clear hb
  go_wp2_with fail
  go_ret
  exact ⟨rfl, HB.out⟩

theorem enters_entry1 : ∀ (args : Array Value) (w : World), (callFunc 81 args).run Tryd.prog w = .ok (.enter 81 args) w := enters_of Tryd.func81 (by kernel_rfl) rfl

set_option maxHeartbeats 4000000 in
set_option maxRecDepth 100000 in
theorem entry_any (p : ByteArray) (hp : p.size ≤ 1000000000) (A : Option Addr) (c : Nat) (L : List VerR) (hok : VersOk L) (w : World) (hd : Door w) (hl : VersAt w A L) :
    Calls Tryd.prog 35 #[.agg #[.string p, .slice A L.length c]] w fun e w' => e = .returned (.string ⟨(entT p.data.toList L).toArray⟩) ∧ Below w.heap.size w w' := by
  obtain ⟨w1, hw1⟩ : ∃ W, w.alloc (.cells #[.string p, .slice A L.length c] 50) = W := ⟨_, rfl⟩
  have hb1 : Below w.heap.size w w1 := by rw [← hw1]; exact (Below.refl _ _).alloc (Nat.le_refl _) _
  have hbl : w1.heap[w.heap.size]? = some (.cells #[.string p, .slice A L.length c] 50 (0, 0)) := by rw [← hw1]; exact World.alloc_heap_new _ _
  have c0 : w1.cell? ⟨w.heap.size, 0, none⟩ = some (.string p) := by simp [World.cell?, hbl]
  have c1 : w1.cell? ⟨w.heap.size, 1, none⟩ = some (.slice A L.length c) := by simp [World.cell?, hbl]
  obtain ⟨w2, hw2⟩ : ∃ W, w1.alloc (.cells #[.pointer none, .slice none 0 0] 110) = W := ⟨_, rfl⟩
  have hb2 : Below w1.heap.size w1 w2 := by rw [← hw2]; exact (Below.refl _ _).alloc (Nat.le_refl _) _
  have htx : IsText w1.heap.size w1.heap.size [] w2 := by rw [← hw2]; exact Lib.fresh_isBuilder _ _ _
  have hs2 : w1.heap.size ≤ w2.heap.size := hb2.size
  obtain ⟨q, hq⟩ : ∃ q, p.data.toList = q := ⟨_, rfl⟩
  have hql : (quoteL q).length ≤ 3000000002 := by
    have h := quoteL_bd q
    have h2 : q.length = p.size := by rw [← hq]; simp
    omega
  obtain ⟨o, ho⟩ : ∃ o : ByteArray, ⟨(quoteL q).toArray⟩ = o := ⟨_, rfl⟩
  have hoz : o.size = (quoteL q).length := by rw [← ho]; rfl
  have hoc : Lib.strCells o = Lib.byteCells (quoteL q) := by rw [← ho]; rfl
  have HQ := Lib.hid (fun w' (hb : Below w1.heap.size w1 w') => (quote_any p (by omega) w').mono fun e w'' h => (show e = .returned (.string o) ∧ Below w1.heap.size w1 w'' ∧ Below w'.heap.size w' w'' from ⟨by rw [← ho, ← hq]; exact h.1, hb.trans (h.2.mono hb.size), h.2⟩))
  have HWR := Lib.hid (fun w' (hb : Below w1.heap.size w2 w') (ht : IsText w1.heap.size w1.heap.size [] w') => write_step (b := w1.heap.size) (BS := []) (w := w2) o hs2 (by simp; omega) w' hb ht)
  have HWZ := Lib.hid (fun w' (hb : Below w1.heap.size w2 w') (ht : IsText w1.heap.size w1.heap.size ([] ++ Lib.strCells o) w') => write_step (b := w1.heap.size) (BS := [] ++ Lib.strCells o) (w := w2) ⟨#[58, 32]⟩ hs2 (by rw [hoc]; simp [Lib.byteCells_length]; show _ + 2 ≤ _; omega) w' hb ht)
  have HLI := Lib.hid (fun BS (hBS : BS.length ≤ 4000000000) w' (hb : Below w1.heap.size w2 w') (ht : IsText w1.heap.size w1.heap.size BS w') =>
    list_any w1.heap.size w1.heap.size BS L.length [59, 32] (verAt L) 81 enters_entry1 #[.pointer (some ⟨w.heap.size, 0, none⟩)] 74052 w' ht (by have := hb.size; omega) hok.len
      (fun i hi => by have := verAt_bd L hok i hi; simp; omega) (by have := hok.len; have : 74052 * L.length ≤ 74052 * 1000 := Nat.mul_le_mul_left _ this; omega)
      (fun w3 i hi hb3 => by
        have hbb : Below w1.heap.size w1 w3 := hb2.trans (hb.trans hb3)
        exact entry1_any A c L hok w.heap.size i hi w3 ((hd.below hb1).below hbb) ((hl.below hb1).below hbb) (cell_below hbb c1)))
  have HLN : Hid (([] ++ Lib.strCells o : List Value).length ≤ 3000000002) := by show _ ≤ _; rw [hoc]; simp only [List.nil_append, Lib.byteCells_length]; omega
  have HB1 := Lib.hid hb1
  have HB2 := Lib.hid hb2
  have HS2 := Lib.hid hs2
  have HTX := Lib.hid htx
  have HC0 := Lib.hid c0
  have HC1 := Lib.hid c1
  have HQC := Lib.hid hoc
  obtain ⟨n, hn⟩ : ∃ n, L.length = n := ⟨_, rfl⟩
  have hV : Hid (∀ BS, BS = Lib.byteCells (entT q L) → ∀ w5, IsText w1.heap.size w1.heap.size BS w5 → Calls Tryd.prog 78 #[.pointer (some ⟨w1.heap.size, 0, none⟩)] w5 fun e w' => e = .returned (.string ⟨(entT q L).toArray⟩) ∧ Below w1.heap.size w5 w') := by
    rintro BS rfl w5 ht
    have hne : entT q L ≠ [] := by simp [entT, entP, quoteL]
    rcases ht with h | h
    · exact tstring_any _ _ _ _ _ h hne
    · exact tstring_any _ _ _ _ _ h hne
  have HE0 : Hid (n = 0 → ([] ++ Lib.strCells o) ++ Lib.byteCells (joinT [59, 32] (verAt L) n) = Lib.byteCells (entT q L)) := by
    rintro rfl
    rw [hoc]; simp [entT, entP, hn, joinT, Lib.byteCells]
  have HE1 : Hid (n ≠ 0 → (([] ++ Lib.strCells o) ++ Lib.strCells ⟨#[58, 32]⟩) ++ Lib.byteCells (joinT [59, 32] (verAt L) n) = Lib.byteCells (entT q L)) := by
    intro h0
    rw [hoc]; simp [entT, entP, hn, h0, Lib.byteCells, Lib.strCells]
  rw [hq]
  obtain ⟨R, hR⟩ : ∃ R : ByteArray, ⟨(entT q L).toArray⟩ = R := ⟨_, rfl⟩
  rw [hR] at hV ⊢
  rw [hn] at c1 HC1 HLI hw1 ⊢
  have HD0 : Hid (∀ w', Below w1.heap.size w1 w' → w'.cell? ⟨w.heap.size, 0, none⟩ = some (.string p) ∧ w'.cell? ⟨w.heap.size, 1, none⟩ = some (.slice A n c)) := fun w' hb => ⟨cell_below hb c0, cell_below hb c1⟩
  clear hd hl hok htx hs2 hb1 hb2 hn hR hq ho hoz hoc hql hbl c0 c1
  obtain ⟨c0, c1⟩ := HD0.out w2 HB2.out
  go_enter Tryd.func35, Tryd.ntmps35
  go_wp2_with fail
  refine (HQ.out w2 HB2.out).mono ?_
  rintro e w3 ⟨rfl, hq3, hq3'⟩
  have HB3 := Lib.hid hq3
  have HB23 : Hid (Below w1.heap.size w2 w3) := hq3'.mono HS2.out
  have HT3 : Hid (IsText w1.heap.size w1.heap.size [] w3) := text_keep HTX.out hq3'
  clear hq3 hq3' c0 c1
  go_wp2_with fail
  refine (HWR.out w3 HB23.out HT3.out).mono ?_
  rintro e w4 ⟨rfl, hq4⟩
  have HB4 := Lib.hid hq4.1
  have HT4 := Lib.hid hq4.2
  obtain ⟨c0, c1⟩ := HD0.out w4 (HB2.out.trans hq4.1)
  clear hq4 c0
  by_cases h0 : n = 0
  · have HEE := Lib.hid (HE0.out h0)
    have hn0 : ¬ (0 : Int) < n := by omega
    clear h0
    go_wp2_with fail
    refine (HLI.out _ (by have := HLN.out; omega) w4 HB4.out HT4.out).mono ?_
    rintro e w5 ⟨rfl, hq5⟩
    have HB5 := Lib.hid (HB4.out.trans hq5.2)
    have HST := Lib.hid (hV.out _ HEE.out w5 hq5.1)
    clear hq5 c1
    go_wp2_with fail
    refine HST.out.mono ?_
    rintro e w6 ⟨rfl, hb6⟩
    have HB6 := Lib.hid (HB2.out.trans (HB5.out.trans hb6))
    clear hb6
    go_wp2_with fail
    go_ret
    exact ⟨rfl, HB1.out.trans (HB6.out.mono HB1.out.size)⟩
  · have HEE := Lib.hid (HE1.out h0)
    have hn0 : (0 : Int) < n := by omega
    clear h0
    go_wp2_with fail
    refine (HWZ.out w4 HB4.out HT4.out).mono ?_
    rintro e w5 ⟨rfl, hq5⟩
    have HB5 := Lib.hid hq5.1
    have HT5 := Lib.hid hq5.2
    clear c1
    obtain ⟨c0, c1⟩ := HD0.out w5 (HB2.out.trans hq5.1)
    clear hq5 c0
    go_wp2_with fail
    refine (HLI.out _ (by have := HLN.out; rw [List.length_append]; have : (Lib.strCells ⟨#[58, 32]⟩).length = 2 := rfl; omega) w5 HB5.out HT5.out).mono ?_
    rintro e w6 ⟨rfl, hq6⟩
    have HB6 := Lib.hid (HB5.out.trans hq6.2)
    have HST := Lib.hid (hV.out _ HEE.out w6 hq6.1)
    clear hq6 c1
    go_wp2_with fail
    refine HST.out.mono ?_
    rintro e w7 ⟨rfl, hb7⟩
    have HB7 := Lib.hid (HB2.out.trans (HB6.out.trans hb7))
    clear hb7
    go_wp2_with fail
    go_ret
    exact ⟨rfl, HB1.out.trans (HB7.out.mono HB1.out.size)⟩

set_option maxHeartbeats 4000000 in
set_option maxRecDepth 100000 in
theorem rentry_any (p : ByteArray) (hp : p.size ≤ 1000000000) (A : Option Addr) (c : Nat) (L : List VerR) (hok : VersOk L) (w : World) (hd : Door w) (hl : VersAt w A L) :
    Calls Tryd.prog 36 #[.agg #[.string p, .slice A L.length c]] w fun e w' => e = .returned (.string ⟨(entT p.data.toList L).toArray⟩) ∧ Below w.heap.size w w' := by
  obtain ⟨w1, hw1⟩ : ∃ W, w.alloc (.cells #[.string p, .slice A L.length c] 50) = W := ⟨_, rfl⟩
  have hb1 : Below w.heap.size w w1 := by rw [← hw1]; exact (Below.refl _ _).alloc (Nat.le_refl _) _
  have hbl : w1.heap[w.heap.size]? = some (.cells #[.string p, .slice A L.length c] 50 (0, 0)) := by rw [← hw1]; exact World.alloc_heap_new _ _
  have c0 : w1.cell? ⟨w.heap.size, 0, none⟩ = some (.string p) := by simp [World.cell?, hbl]
  have c1 : w1.cell? ⟨w.heap.size, 1, none⟩ = some (.slice A L.length c) := by simp [World.cell?, hbl]
  obtain ⟨q, hq⟩ : ∃ q, p.data.toList = q := ⟨_, rfl⟩
  have hql : (quoteL q).length ≤ 3000000002 := by
    have h := quoteL_bd q
    have h2 : q.length = p.size := by rw [← hq]; simp
    omega
  obtain ⟨n, hn⟩ : ∃ n, L.length = n := ⟨_, rfl⟩
  have hn1 := hok.len
  have HQ := Lib.hid (fun w' (hb : Below w1.heap.size w1 w') => (rquote_any p (by omega) w').mono fun e w'' h => (show e = .returned (.string ⟨(entP q L 0).toArray⟩) ∧ Below w1.heap.size w1 w'' from ⟨by rw [h.1]; simp [entP, hq], hb.trans (h.2.mono hb.size)⟩))
  have HV := Lib.hid (fun k (hk : k < L.length) w' (hb : Below w1.heap.size w1 w') => (rversion_any L[k] (hok.each _ (List.getElem_mem hk)) w' ((hd.below hb1).below hb) (by obtain ⟨a, _, _, _, _, _, _, h⟩ := ((hl.below hb1).below hb) k hk; exact h)).mono fun e w'' h => (show e = .returned (.string ⟨(verT L[k]).toArray⟩) ∧ Below w1.heap.size w1 w'' from ⟨h.1, hb.trans (h.2.mono hb.size)⟩))
  have HL := Lib.hid (fun w' (hb : Below w1.heap.size w1 w') => (hl.below hb1).below hb)
  have HPB : Hid (∀ k, k ≤ n → (entP q L k).length ≤ 3000000004 + 74052 * 1000) := fun k hk => by
    have := joinV_bd L hok k (by omega)
    have : 74052 * k ≤ 74052 * 1000 := Nat.mul_le_mul_left _ (by omega)
    unfold entP
    split <;> simp <;> omega
  have HVB : Hid (∀ k (hk : k < L.length), (verT L[k]).length ≤ 74050) := fun k hk => by have := verAt_bd L hok k hk; rwa [verAt_eq L k hk] at this
  have HD0 : Hid (∀ w', Below w1.heap.size w1 w' → w'.cell? ⟨w.heap.size, 0, none⟩ = some (.string p) ∧ w'.cell? ⟨w.heap.size, 1, none⟩ = some (.slice A n c)) := fun w' hb => ⟨cell_below hb c0, by rw [← hn]; exact cell_below hb c1⟩
  have HN := Lib.hid hn
  rw [hq]
  rw [hn] at c1 hw1 hn1 ⊢
  have hn2 : (n : Int) ≤ 1000 := by omega
  have HB1 := Lib.hid hb1
  clear hd hl hok hb1 hn hq hql hbl
  go_enter Tryd.func36, Tryd.ntmps36
  go_wp2_with fail
  refine (HQ.out w1 (Below.refl _ _)).mono ?_
  rintro e w2 ⟨rfl, hb2⟩
  have HB2 := Lib.hid hb2
  clear hb2 c0 c1
  go_wp2_with fail
  go_loopg [3, 4] n (fun m t3 t4 wr => ∃ k : Nat, Hid (m = n - k ∧ k ≤ n) ∧ t4 = .int .i64 k ∧ t3 = .string ⟨(entP q L k).toArray⟩ ∧ Hid (Below w1.heap.size w1 wr))
  case atStart => exact ⟨0, ⟨rfl, Nat.zero_le _⟩, rfl, rfl, HB2⟩
  case round =>
    obtain ⟨k, HM, rfl, rfl, HB⟩ := hrel
    obtain ⟨-, c1⟩ := HD0.out wr HB.out
    obtain ⟨S, hS⟩ : ∃ S : ByteArray, ⟨(entP q L k).toArray⟩ = S := ⟨_, rfl⟩
    have hSz : S.size ≤ 3000000004 + 74052 * 1000 := by rw [← hS]; exact HPB.out k HM.out.2
    have HS := Lib.hid hS
    rw [hS]
    clear hS
    by_cases hlt : k < n
    · have hlt' : (k : Int) < n := by omega
      have hkl : k < L.length := by rw [HN.out]; exact hlt
      obtain ⟨a, rfl, d0, d1, d2, d3, d4, -⟩ := HL.out wr HB.out k hkl
      have hvb := HVB.out k hkl
      have HVC := Lib.hid (HV.out k hkl wr HB.out)
      have hva := verAt_eq L k hkl
      obtain ⟨x, hxx⟩ : ∃ x, L[k] = x := ⟨_, rfl⟩
      rw [hxx] at d0 d1 d2 d3 d4 HVC hvb hva
      obtain ⟨o, ho⟩ : ∃ o : ByteArray, ⟨(verT x).toArray⟩ = o := ⟨_, rfl⟩
      have hoz : o.size ≤ 74050 := by rw [← ho]; exact hvb
      rw [ho] at HVC
      obtain ⟨dp, dc, A1, c1', past, dead, data⟩ := x
      simp only [VerR.cells] at HVC
      obtain ⟨pl, hpl⟩ : ∃ n, past.length = n := ⟨_, rfl⟩
      simp only at d0 d1 d2 d3 d4
      rw [hpl] at HVC d2
      by_cases h0 : k = 0
      · subst h0
        obtain ⟨U, hU⟩ : ∃ U : ByteArray, S ++ ⟨#[58, 32]⟩ = U := ⟨_, rfl⟩
        have hUz : U.size ≤ 3000000006 + 74052 * 1000 := by rw [← hU, ByteArray.size_append]; show S.size + 2 ≤ _; omega
        have HNX : Hid (U ++ o = ⟨(entP q L 1).toArray⟩) := by
          rw [← hU, ← HS.out, ← ho]; apply ByteArray.ext; simp [entP, joinT, hva]
        have ha1 : ¬ 9223372036854775807 < S.size + 2 := by omega
        have hadd : ¬ 9223372036854775807 < U.size + o.size := by omega
        simp only [Nat.zero_mul, Addr.add_zero'] at d0 d1 d2 d3 d4
        clear ho hva hvb hxx hpl hkl
        go_wp2_with fail
        refine HVC.out.mono ?_
        rintro e w' ⟨rfl, hqq⟩
        have HB2 := Lib.hid hqq
        clear hqq
        go_wp2_with fail
        go_roundg (n - (0 + 1))
        case rel => exact ⟨0 + 1, ⟨rfl, hlt⟩, by go_num, by rw [HNX.out], HB2⟩
        case measure => have := HM.out; omega
      · have hk0 : ((k : Int) == 0) = false := by simp; omega
        obtain ⟨U, hU⟩ : ∃ U : ByteArray, S ++ ⟨#[59, 32]⟩ = U := ⟨_, rfl⟩
        have hUz : U.size ≤ 3000000006 + 74052 * 1000 := by rw [← hU, ByteArray.size_append]; show S.size + 2 ≤ _; omega
        have HNX : Hid (U ++ o = ⟨(entP q L (k + 1)).toArray⟩) := by
          rw [← hU, ← HS.out, ← ho]; apply ByteArray.ext; simp [entP, joinT, hva, h0]
        have ha1 : ¬ 9223372036854775807 < S.size + 2 := by omega
        have hadd : ¬ 9223372036854775807 < U.size + o.size := by omega
        clear ho hva hvb hxx hpl hkl h0
        go_wp2_with fail
        refine HVC.out.mono ?_
        rintro e w' ⟨rfl, hqq⟩
        have HB2 := Lib.hid hqq
        clear hqq
        go_wp2_with fail
        go_roundg (n - (k + 1))
        case rel => exact ⟨k + 1, ⟨rfl, hlt⟩, by go_num, by rw [HNX.out], HB2⟩
        case measure => have := HM.out; omega
    · have hlt' : ¬ (k : Int) < n := by omega
      have hk : k = n := by have := HM.out; omega
      have HF : Hid (S = ⟨(entT q L).toArray⟩) := by
        show S = _
        rw [← HS.out, hk, entT, HN.out]
      clear hk
      go_wp2_with fail
      go_ret
      rw [HF.out]
      exact ⟨rfl, HB1.out.trans (HB.out.mono HB1.out.size)⟩
end Go.Proofs.YtmeneoanmfpecaaDoor
