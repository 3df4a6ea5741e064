/- package show: a version's text. -/
import Derived.Test.YtmeneoanmfpecaaDoorVec
namespace Go.Proofs.YtmeneoanmfpecaaDoor
set_option linter.unusedVariables false
set_option linter.unusedSimpArgs false
open Go.RowKit

structure VerR where
  dp : Int
  dc : Int
  A : Option Addr
  c : Nat
  past : List (Int × Int)
  dead : Bool
  data : ByteArray
def VerR.cells (x : VerR) : Array Value := #[.int .i64 x.dp, .int .i64 x.dc, .slice x.A x.past.length x.c, .bool x.dead, .string x.data]
structure VerR.Ok (x : VerR) : Prop where
  dp : In64 x.dp
  dc : In64 x.dc
  past : DotsOk x.past
  len : x.past.length ≤ 1000
  data : x.data.size ≤ 1000000000000
def whatT (x : VerR) : List UInt8 := if x.dead = true then [103, 111, 110, 101] else quoteL x.data.data.toList
/-- A version's text. -/
def verT (x : VerR) : List UInt8 := dotT x.dp x.dc ++ [32] ++ vecT x.past ++ [32] ++ whatT x
theorem whatT_bd (x : VerR) (hx : x.Ok) : (whatT x).length ≤ 3000000000002 := by
  unfold whatT
  split
  · decide
  · have h := quoteL_bd x.data.data.toList
    have h2 : x.data.data.toList.length = x.data.size := by simp
    have := hx.data
    omega

set_option maxHeartbeats 4000000 in
set_option maxRecDepth 100000 in
theorem version_any (x : VerR) (hx : x.Ok) (w : World) (hd : Door w) (hl : DotsAt w x.A x.past) :
    Calls Tryd.prog 30 #[.agg x.cells] w fun e w' => e = .returned (.string ⟨(verT x).toArray⟩) ∧ Below w.heap.size w w' := by
  obtain ⟨w1, hw1⟩ : ∃ W, w.alloc (.cells x.cells 54) = W := ⟨_, rfl⟩
  have hb1 : Below w.heap.size w w1 := by rw [← hw1]; exact (Below.refl _ _).alloc (Nat.le_refl _) _
  have hbl : w1.heap[w.heap.size]? = some (.cells x.cells 54 (0, 0)) := by rw [← hw1]; exact World.alloc_heap_new _ _
  have HB1 := Lib.hid hb1
  have HQ : Hid (∀ w', Below w1.heap.size w1 w' → Calls Tryd.prog 40 #[.string x.data] w' fun e w'' => e = .returned (.string ⟨(quoteL x.data.data.toList).toArray⟩) ∧ Below w1.heap.size w1 w'') := fun w' hb => (quote_any x.data hx.data w').mono fun e w'' h => ⟨h.1, hb.trans (h.2.mono hb.size)⟩
  have HDT : Hid (∀ w', Below w1.heap.size w1 w' → Calls Tryd.prog 25 #[.agg #[.int .i64 x.dp, .int .i64 x.dc]] w' fun e w'' => e = .returned (.string ⟨(dotT x.dp x.dc).toArray⟩) ∧ Below w1.heap.size w1 w'') := fun w' hb => (dot_any x.dp x.dc hx.dp hx.dc w' ((hd.below hb1).below hb)).mono fun e w'' h => ⟨h.1, hb.trans (h.2.mono hb.size)⟩
  have HV : Hid (∀ w', Below w1.heap.size w1 w' → Calls Tryd.prog 26 #[.slice x.A x.past.length x.c] w' fun e w'' => e = .returned (.string ⟨(vecT x.past).toArray⟩) ∧ Below w1.heap.size w1 w'') := fun w' hb => (vec_any x.A x.c x.past hx.past hx.len w' ((hd.below hb1).below hb) ((hl.below hb1).below hb)).mono fun e w'' h => ⟨h.1, hb.trans (h.2.mono hb.size)⟩
  have hlD := dotT_bd x.dp x.dc hx.dp hx.dc
  have hlV := vecT_bd x.past hx.past
  have hlen := hx.len
  have hlW := whatT_bd x hx
  have hlQ : (quoteL x.data.data.toList).length ≤ 3000000000002 := by
    have h := quoteL_bd x.data.data.toList
    have h2 : x.data.data.toList.length = x.data.size := by simp
    have := hx.data
    omega
  obtain ⟨DT, hDT⟩ : ∃ o : ByteArray, ⟨(dotT x.dp x.dc).toArray⟩ = o := ⟨_, rfl⟩
  obtain ⟨VT, hVT⟩ : ∃ o : ByteArray, ⟨(vecT x.past).toArray⟩ = o := ⟨_, rfl⟩
  obtain ⟨QT, hQT⟩ : ∃ o : ByteArray, ⟨(quoteL x.data.data.toList).toArray⟩ = o := ⟨_, rfl⟩
  have hzD : DT.size ≤ 43 := by rw [← hDT]; exact hlD
  have hzV : VT.size ≤ 44002 := by rw [← hVT]; show (vecT x.past).length ≤ _; omega
  have hzQ : QT.size ≤ 3000000000002 := by rw [← hQT]; exact hlQ
  obtain ⟨U1, hU1⟩ : ∃ T : ByteArray, DT ++ ⟨#[32]⟩ = T := ⟨_, rfl⟩
  obtain ⟨U2, hU2⟩ : ∃ T : ByteArray, U1 ++ VT = T := ⟨_, rfl⟩
  obtain ⟨U3, hU3⟩ : ∃ T : ByteArray, U2 ++ ⟨#[32]⟩ = T := ⟨_, rfl⟩
  have hs1 : U1.size ≤ 44 := by rw [← hU1, ByteArray.size_append]; show DT.size + 1 ≤ 44; omega
  have hs2 : U2.size ≤ 44046 := by rw [← hU2, ByteArray.size_append]; omega
  have hs3 : U3.size ≤ 44047 := by rw [← hU3, ByteArray.size_append]; show U2.size + 1 ≤ 44047; omega
  have hg1 : ¬ 9223372036854775807 < DT.size + 1 := by omega
  have hg2 : ¬ 9223372036854775807 < U1.size + VT.size := by omega
  have hg3 : ¬ 9223372036854775807 < U2.size + 1 := by omega
  have HF1 : Hid (x.dead = true → U3 ++ ⟨#[103, 111, 110, 101]⟩ = ⟨(verT x).toArray⟩) := fun hdd => by
    unfold verT whatT
    rw [if_pos hdd, ← hU3, ← hU2, ← hU1, ← hDT, ← hVT]
    apply ByteArray.ext
    simp
  have HF2 : Hid (x.dead = false → U3 ++ QT = ⟨(verT x).toArray⟩) := fun hdd => by
    unfold verT whatT
    rw [if_neg (by simp [hdd]), ← hU3, ← hU2, ← hU1, ← hDT, ← hVT, ← hQT]
    apply ByteArray.ext
    simp
  obtain ⟨R, hR⟩ : ∃ R : ByteArray, ⟨(verT x).toArray⟩ = R := ⟨_, rfl⟩
  rw [hR] at HF1 HF2 ⊢
  rw [hDT] at HDT
  rw [hVT] at HV
  rw [hQT] at HQ
  obtain ⟨dp, dc, A, c, past, dead, data⟩ := x
  simp only at HQ HDT HV HF1 HF2
  have c0 : w1.cell? ⟨w.heap.size, 0, none⟩ = some (.int .i64 dp) := by simp [World.cell?, hbl, VerR.cells]
  have c1 : w1.cell? ⟨w.heap.size, 1, none⟩ = some (.int .i64 dc) := by simp [World.cell?, hbl, VerR.cells]
  have c2 : w1.cell? ⟨w.heap.size, 2, none⟩ = some (.slice A past.length c) := by simp [World.cell?, hbl, VerR.cells]
  have c3 : w1.cell? ⟨w.heap.size, 3, none⟩ = some (.bool dead) := by simp [World.cell?, hbl, VerR.cells]
  have c4 : w1.cell? ⟨w.heap.size, 4, none⟩ = some (.string data) := by simp [World.cell?, hbl, VerR.cells]
  have HCELL : Hid (∀ w', Below w1.heap.size w1 w' → Below w1.heap.size w1 w' ∧ w'.cell? ⟨w.heap.size, 0, none⟩ = some (.int .i64 dp) ∧ w'.cell? ⟨w.heap.size, 1, none⟩ = some (.int .i64 dc) ∧ w'.cell? ⟨w.heap.size, 2, none⟩ = some (.slice A past.length c) ∧ w'.cell? ⟨w.heap.size, 3, none⟩ = some (.bool dead) ∧ w'.cell? ⟨w.heap.size, 4, none⟩ = some (.string data)) := fun w' hb => ⟨hb, cell_below hb c0, cell_below hb c1, cell_below hb c2, cell_below hb c3, cell_below hb c4⟩
  clear hbl hb1 hd hl hx hlD hlV hlen hlW hlQ hDT hVT hQT hR hzD hzV hs1 hs2
  show Calls Tryd.prog 30 #[.agg #[.int .i64 dp, .int .i64 dc, .slice A past.length c, .bool dead, .string data]] w _
  simp only [VerR.cells] at hw1
  go_enter Tryd.func30, Tryd.ntmps30
  go_wp2_with fail
  refine (HQ.out w1 (Below.refl _ _)).mono ?_
  rintro e w2 ⟨rfl, hb⟩
  have HB2 := Lib.hid hb
  clear c0 c1 c2 c3 c4
  obtain ⟨-, d0, d1, d2, d3, d4⟩ := HCELL.out w2 hb
  clear hb
  cases dead with
  | true =>
    have HFF := Lib.hid (HF1.out rfl)
    have hg4 : ¬ 9223372036854775807 < U3.size + 4 := by omega
    go_wp2_with fail
    go_cut [2] (fun t wc => t = .string R ∧ Hid (Below w1.heap.size w1 wc))
    case first =>
      go_region_held3 (fun w' => Below w1.heap.size w1 w' ∧ w'.cell? ⟨w.heap.size, 0, none⟩ = some (.int .i64 dp) ∧ w'.cell? ⟨w.heap.size, 1, none⟩ = some (.int .i64 dc) ∧ w'.cell? ⟨w.heap.size, 2, none⟩ = some (.slice A past.length c) ∧ w'.cell? ⟨w.heap.size, 3, none⟩ = some (.bool true) ∧ w'.cell? ⟨w.heap.size, 4, none⟩ = some (.string data))
        (first | exact HCELL.out _ (by assumption) | exact HCELL.out _ HB2.out | exact HCELL.out _ HB2.out.drew | (go_split_ands; exact HCELL.out _ (by assumption)))
        (first | (go_at_call 25; refine (HDT.out _ ?_).mono ?_; (first | assumption | exact (Below.refl _ _).drew | exact HB2.out | exact HB2.out.drew | (go_split_ands; assumption)); rintro e w' ⟨rfl, hq⟩) | (go_at_call 26; refine (HV.out _ ?_).mono ?_; (first | assumption | exact (Below.refl _ _).drew | exact HB2.out | exact HB2.out.drew | (go_split_ands; assumption)); rintro e w' ⟨rfl, hq⟩))
      all_goals
        go_wp2_with fail
        go_meet
        exact ⟨by rw [HFF.out], Lib.hid (by assumption)⟩
    case rest =>
      obtain ⟨rfl, HBY⟩ := hcut
      go_wp2_with fail
      go_ret
      exact ⟨rfl, HB1.out.trans (HBY.out.mono HB1.out.size)⟩
  | false =>
    have HFF := Lib.hid (HF2.out rfl)
    have hg4 : ¬ 9223372036854775807 < U3.size + QT.size := by omega
    go_wp2_with fail
    go_cut [2] (fun t wc => t = .string R ∧ Hid (Below w1.heap.size w1 wc))
    case first =>
      go_region_held3 (fun w' => Below w1.heap.size w1 w' ∧ w'.cell? ⟨w.heap.size, 0, none⟩ = some (.int .i64 dp) ∧ w'.cell? ⟨w.heap.size, 1, none⟩ = some (.int .i64 dc) ∧ w'.cell? ⟨w.heap.size, 2, none⟩ = some (.slice A past.length c) ∧ w'.cell? ⟨w.heap.size, 3, none⟩ = some (.bool false) ∧ w'.cell? ⟨w.heap.size, 4, none⟩ = some (.string data))
        (first | exact HCELL.out _ (by assumption) | exact HCELL.out _ HB2.out | exact HCELL.out _ HB2.out.drew | (go_split_ands; exact HCELL.out _ (by assumption)))
        (first | (go_at_call 25; refine (HDT.out _ ?_).mono ?_; (first | assumption | exact (Below.refl _ _).drew | exact HB2.out | exact HB2.out.drew | (go_split_ands; assumption)); rintro e w' ⟨rfl, hq⟩) | (go_at_call 26; refine (HV.out _ ?_).mono ?_; (first | assumption | exact (Below.refl _ _).drew | exact HB2.out | exact HB2.out.drew | (go_split_ands; assumption)); rintro e w' ⟨rfl, hq⟩))
      all_goals
        go_wp2_with fail
        go_meet
        exact ⟨by rw [HFF.out], Lib.hid (by assumption)⟩
    case rest =>
      obtain ⟨rfl, HBY⟩ := hcut
      go_wp2_with fail
      go_ret
      exact ⟨rfl, HB1.out.trans (HBY.out.mono HB1.out.size)⟩
end Go.Proofs.YtmeneoanmfpecaaDoor
