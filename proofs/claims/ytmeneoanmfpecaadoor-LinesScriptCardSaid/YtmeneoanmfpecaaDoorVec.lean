/- package show: a vector's text. -/
import Derived.Test.YtmeneoanmfpecaaDoorTextList
namespace Go.Proofs.YtmeneoanmfpecaaDoor
set_option linter.unusedVariables false
set_option linter.unusedSimpArgs false
open Go.RowKit

/-- A row of dots that can be read. -/
def DotsAt (w : World) (A : Option Addr) (l : List (Int × Int)) : Prop := ∀ j (hj : j < l.length), ∃ a, A = some a ∧ w.cell? (a.add (j * 2)) = some (.int .i64 l[j].1) ∧ w.cell? ⟨(a.add (j * 2)).block, (a.add (j * 2)).off + 1, none⟩ = some (.int .i64 l[j].2)
def DotsOk (l : List (Int × Int)) : Prop := ∀ x ∈ l, In64 x.1 ∧ In64 x.2
theorem DotsAt.below {w w' : World} {A : Option Addr} {l : List (Int × Int)} (h : DotsAt w A l) (hb : Below w.heap.size w w') : DotsAt w' A l := fun j hj => by
  obtain ⟨a, e, h0, h1⟩ := h j hj
  exact ⟨a, e, cell_below hb h0, cell_below hb h1⟩

def dotAt (l : List (Int × Int)) (i : Nat) : List UInt8 := dotT (l.getD i (0, 0)).1 (l.getD i (0, 0)).2
/-- A vector's text. -/
def vecT (l : List (Int × Int)) : List UInt8 := 123 :: joinT [32] (dotAt l) l.length ++ [125]
theorem dotAt_bd (l : List (Int × Int)) (h : DotsOk l) (i : Nat) (hi : i < l.length) : (dotAt l i).length ≤ 43 := by
  have := h l[i] (List.getElem_mem hi)
  unfold dotAt
  rw [List.getD_eq_getElem?_getD, List.getElem?_eq_getElem hi]
  exact dotT_bd _ _ this.1 this.2
theorem vecT_bd (l : List (Int × Int)) (h : DotsOk l) : (vecT l).length ≤ 44 * l.length + 2 := by
  have := joinT_bd [32] (dotAt l) 44 l.length (fun i hi => by have := dotAt_bd l h i hi; simp; omega)
  simp only [vecT, List.cons_append, List.length_cons, List.length_append, List.length_nil]
  omega

set_option maxHeartbeats 2000000 in
set_option maxRecDepth 100000 in
theorem vec1_any (A : Option Addr) (c : Nat) (l : List (Int × Int)) (hok : DotsOk l) (b0 : Nat) (i : Nat) (hi : i < l.length) (w : World) (hd : Door w) (hl : DotsAt w A l)
    (hb0 : w.cell? ⟨b0, 0, none⟩ = some (.slice A l.length c)) :
    Calls Tryd.prog 77 (#[.int .i64 i] ++ #[.pointer (some ⟨b0, 0, none⟩)]) w fun e w2 => e = .returned (.string ⟨(dotAt l i).toArray⟩) ∧ Below w.heap.size w w2 := by
  obtain ⟨a, rfl, d0, d1⟩ := hl i hi
  have hx := hok l[i] (List.getElem_mem hi)
  have hT : dotAt l i = dotT l[i].1 l[i].2 := by unfold dotAt; rw [List.getD_eq_getElem?_getD, List.getElem?_eq_getElem hi]; rfl
  rw [hT]
  have HC := Lib.hid (dot_any l[i].1 l[i].2 hx.1 hx.2 w hd)
  obtain ⟨p, hp⟩ : ∃ p, l[i].1 = p := ⟨_, rfl⟩
  obtain ⟨q, hq⟩ : ∃ q, l[i].2 = q := ⟨_, rfl⟩
  rw [hp] at d0 HC
  rw [hq] at d1 HC
  rw [hp, hq]
  have hi' : (i : Int) < l.length := by omega
  clear hl hok hx hT hp hq hd hi
  show Calls Tryd.prog 77 #[.int .i64 i, .pointer (some ⟨b0, 0, none⟩)] w _
  go_enter Tryd.func77, Tryd.ntmps77
  go_wp2_with fail
  refine HC.out.mono ?_
  rintro e w' ⟨rfl, hb⟩
  have HB := Lib.hid hb
  clear hb
  go_wp2_with fail
  go_ret
  exact ⟨rfl, HB.out⟩

theorem enters_vec1 : ∀ (args : Array Value) (w : World), (callFunc 77 args).run Tryd.prog w = .ok (.enter 77 args) w := enters_of Tryd.func77 (by kernel_rfl) rfl

set_option maxHeartbeats 4000000 in
set_option maxRecDepth 100000 in
theorem vec_any (A : Option Addr) (c : Nat) (l : List (Int × Int)) (hok : DotsOk l) (hn : l.length ≤ 1000) (w : World) (hd : Door w) (hl : DotsAt w A l) :
    Calls Tryd.prog 26 #[.slice A l.length c] w fun e w' => e = .returned (.string ⟨(vecT l).toArray⟩) ∧ Below w.heap.size w w' := by
  obtain ⟨w1, hw1⟩ : ∃ W, w.alloc (.cells #[.slice A l.length c] 42) = W := ⟨_, rfl⟩
  have hb1 : Below w.heap.size w w1 := by rw [← hw1]; exact (Below.refl _ _).alloc (Nat.le_refl _) _
  have hsz1 : w1.heap.size = w.heap.size + 1 := by rw [← hw1]; simp
  have c0 : w1.cell? ⟨w.heap.size, 0, none⟩ = some (.slice A l.length c) := by
    have hbl : w1.heap[w.heap.size]? = some (.cells #[.slice A l.length c] 42 (0, 0)) := by rw [← hw1]; exact World.alloc_heap_new _ _
    simp [World.cell?, hbl]
  obtain ⟨w2, hw2⟩ : ∃ W, w1.alloc (.cells #[.pointer none, .slice none 0 0] 110) = W := ⟨_, rfl⟩
  have hb2 : Below w1.heap.size w1 w2 := by rw [← hw2]; exact (Below.refl _ _).alloc (Nat.le_refl _) _
  have htx : IsText w1.heap.size w1.heap.size [] w2 := by rw [← hw2]; exact Lib.fresh_isBuilder _ _ _
  have hs2 : w1.heap.size ≤ w2.heap.size := hb2.size
  have HWR := Lib.hid (write_step (b := w1.heap.size) (BS := []) (w := w2) ⟨#[123]⟩ hs2 (by decide) w2 (Below.refl _ _) htx)
  have HLI := Lib.hid (fun w' (hb : Below w1.heap.size w2 w') (ht : IsText w1.heap.size w1.heap.size ([] ++ Lib.strCells ⟨#[123]⟩) w') =>
    list_any w1.heap.size w1.heap.size _ l.length [32] (dotAt l) 77 enters_vec1 #[.pointer (some ⟨w.heap.size, 0, none⟩)] 44 w' ht (by have := hb.size; omega) hn
      (fun i hi => by have := dotAt_bd l hok i hi; simp; omega) (by show 1 + 44 * l.length ≤ _; omega)
      (fun w3 i hi hb3 => by
        have hbb : Below w1.heap.size w1 w3 := hb2.trans (hb.trans hb3)
        exact vec1_any A c l hok w.heap.size i hi w3 ((hd.below hb1).below hbb) ((hl.below hb1).below hbb) (cell_below hbb c0)))
  have HWZ := Lib.hid (fun BS (hBS : BS.length + 1 ≤ 140737488355328) w' (hb : Below w1.heap.size w2 w') (ht : IsText w1.heap.size w1.heap.size BS w') => write_step (b := w1.heap.size) (BS := BS) (w := w2) ⟨#[125]⟩ hs2 hBS w' hb ht)
  have hv := vecT_bd l hok
  have HV : Hid (([] ++ Lib.strCells ⟨#[123]⟩ ++ Lib.byteCells (joinT [32] (dotAt l) l.length)) ++ Lib.strCells ⟨#[125]⟩ = Lib.byteCells (vecT l)) := by simp [Hid, vecT, Lib.byteCells, Lib.strCells]
  have HLN : Hid (([] ++ Lib.strCells ⟨#[123]⟩ ++ Lib.byteCells (joinT [32] (dotAt l) l.length)).length + 1 ≤ 140737488355328) := by
    have h1 := congrArg List.length HV.out
    rw [Lib.byteCells_length, List.length_append, Lib.strCells_length] at h1
    have h2 : (⟨#[125]⟩ : ByteArray).size = 1 := rfl
    rw [h2] at h1
    show _ + 1 ≤ _
    omega
  have HB1 := Lib.hid hb1
  have HB2 := Lib.hid hb2
  have HC0 := Lib.hid c0
  have hne : vecT l ≠ [] := by simp [vecT]
  have HNE := Lib.hid hne
  obtain ⟨V, hVV⟩ : ∃ V, vecT l = V := ⟨_, rfl⟩
  rw [hVV] at HV HNE ⊢
  clear hd hl hok hn htx hs2 hb1 hb2 hv hsz1 hne hVV c0
  go_enter Tryd.func26, Tryd.ntmps26
  go_wp2_with fail
  refine HWR.out.mono ?_
  rintro e w3 ⟨rfl, hq3⟩
  have HB3 := Lib.hid hq3.1
  have HT3 := Lib.hid hq3.2
  have c3 : w3.cell? ⟨w.heap.size, 0, none⟩ = some (.slice A l.length c) := cell_below (HB2.out.trans hq3.1) HC0.out
  clear hq3
  go_wp2_with fail
  refine (HLI.out w3 HB3.out HT3.out).mono ?_
  rintro e w4 ⟨rfl, hq4⟩
  have HB4 := Lib.hid (HB3.out.trans hq4.2)
  have HT4 := Lib.hid hq4.1
  clear hq4 c3
  go_wp2_with fail
  refine (HWZ.out _ HLN.out w4 HB4.out HT4.out).mono ?_
  rintro e w5 ⟨rfl, hq5⟩
  have HB5 := Lib.hid hq5.1
  have ht5 := hq5.2
  rw [HV.out] at ht5
  have HST : Hid (Calls Tryd.prog 78 #[.pointer (some ⟨w1.heap.size, 0, none⟩)] w5 fun e w' => e = .returned (.string ⟨V.toArray⟩) ∧ Below w1.heap.size w5 w') := by
    rcases ht5 with h | h
    · exact tstring_any _ _ _ _ _ h HNE.out
    · exact tstring_any _ _ _ _ _ h HNE.out
  clear hq5 ht5
  go_wp2_with fail
  refine HST.out.mono ?_
  rintro e w6 ⟨rfl, hb6⟩
  have HB6 := Lib.hid (HB2.out.trans (HB5.out.trans hb6))
  clear hb6
  go_wp2_with fail
  go_ret
  exact ⟨rfl, HB1.out.trans (HB6.out.mono HB1.out.size)⟩
end Go.Proofs.YtmeneoanmfpecaaDoor
