/- package show: an event's text. -/
import Derived.StillTailTactics
import Derived.Deep.Cut
import Derived.Deep.DeepCutAuto
import Derived.Deep.RegionHeld3
import Derived.Test.YtmeneoanmfpecaaDoorErr
import Derived.Test.YtmeneoanmfpecaaDoorDots
import Derived.Test.YtmeneoanmfpecaaDoorRefLine
namespace Go.Proofs.YtmeneoanmfpecaaDoor
set_option linter.unusedVariables false
set_option linter.unusedSimpArgs false
open Go.RowKit Go.Proofs.YtmeneoanmfpecaaDoorW.PrintWords

structure EvR where
  at_ : Int
  op : OpR
  err : Int
  dp : Int
  dc : Int
def EvR.cells (x : EvR) : Array Value := #[.int .i64 x.at_, .int .i64 x.op.k, .int .i64 x.op.p, .int .i64 x.op.t, .int .i64 x.op.n, .int .i64 x.op.a, .int .i64 x.op.m, .string x.op.u, .string x.op.v, .int .i64 x.err, .int .i64 x.dp, .int .i64 x.dc]
def EvR.ok (x : EvR) : Prop := In64 x.at_ ∧ In64 x.dp ∧ In64 x.dc
/-- An event's text. -/
def eventT (x : EvR) : List UInt8 := Lib.itoa x.at_ ++ [58, 32] ++ (if checkM x.op = 0 then lineT x.op else [63]) ++ [44, 32] ++ errT x.err ++ (if x.err = 0 ∧ ¬ (x.dp = 0 ∧ x.dc = 0) then 32 :: dotT x.dp x.dc else [])

theorem lineT_bd (x : OpR) : (lineT x).length ≤ 1717 := by
  unfold lineT
  split
  · rename_i h
    unfold lineM
    have h1 := flat_le x.numT 22 (numP x.k.toNat) (fun i hi => numT_bd x h i ((numP_bd _).2 i hi).2)
    have h2 := flat_le x.textT 800 (textP x.k.toNat) (fun i hi => textT_bd x h i)
    have h3 := (numP_bd x.k.toNat).1
    have h4 := (textP_bd x.k.toNat).1
    have h5 := word_bd x.k.toNat
    simp only [List.length_append]
    omega
  · simp

theorem part_intD (w : World) (cs : Array Value) (o : Nat) (v : Value) (h : cs[o]? = some v) : (part 3 cs o).run Tryd.prog w = .ok v w := by
  have ha : (isAgg 3).run Tryd.prog w = .ok false w := by kernel_rfl
  simp [part, Sem.run_bind, ha, h, Result.andThen]
set_option maxRecDepth 100000 in
theorem dot_equal (w : World) (a b c d : Int) : (Op.equalIn 10000 32 (.agg #[.int .i64 a, .int .i64 b]) (.agg #[.int .i64 c, .int .i64 d])).run Tryd.prog w = .ok (a == c && b == d) w := by
  refine eqA_of (d := 9999) Tryd.underlying32 (by kernel_rfl) ?_
  refine eqf_cons (by decide) (part_intD w _ _ _ rfl) (part_intD w _ _ _ rfl) (run_equalIn_int w 9998 _ _ _ _ _ Tryd.underlying3) ?_
  exact eqf_last (by decide) (part_intD w _ _ _ rfl) (part_intD w _ _ _ rfl) (run_equalIn_int w 9998 _ _ _ _ _ Tryd.underlying3)

set_option maxHeartbeats 8000000 in
set_option maxRecDepth 100000 in
theorem event_any (x : EvR) (hx : x.ok) (w : World) (hd : Door w) :
    Calls Tryd.prog 23 #[.agg x.cells] w fun e w' => e = .returned (.string ⟨(eventT x).toArray⟩) ∧ Below w.heap.size w w' := by
  obtain ⟨w1, hw1⟩ : ∃ W, w.alloc (.cells x.cells 34) = W := ⟨_, rfl⟩
  have hb1 : Below w.heap.size w w1 := by rw [← hw1]; exact (Below.refl _ _).alloc (Nat.le_refl _) _
  have hbl : w1.heap[w.heap.size]? = some (.cells x.cells 34 (0, 0)) := by rw [← hw1]; exact World.alloc_heap_new _ _
  have HB1 := Lib.hid hb1
  obtain ⟨L, hL⟩ : ∃ o : ByteArray, ⟨(lineT x.op).toArray⟩ = o := ⟨_, rfl⟩
  obtain ⟨C, hC⟩ : ∃ C, checkM x.op = C := ⟨_, rfl⟩
  have HL : Hid (∀ w', Below w1.heap.size w1 w' → Calls Tryd.prog 42 #[.agg x.op.cells] w' fun e w'' => e = .returned (.tuple #[.string L, .int .i64 C]) ∧ Below w1.heap.size w1 w'') := fun w' hb => (line_any x.op w' ((hd.below hb1).below hb)).mono fun e w'' h => ⟨by rw [← hL, ← hC]; exact h.1, hb.trans (h.2.mono hb.size)⟩
  have HI : Hid (∀ w', Below w1.heap.size w1 w' → Calls Tryd.prog 72 #[.int .i64 x.at_] w' fun e w'' => e = .returned (.string ⟨(Lib.itoa x.at_).toArray⟩) ∧ Below w1.heap.size w1 w'') := fun w' hb => (itoa_any x.at_ hx.1.1 hx.1.2 w' ((hd.below hb1).below hb)).mono fun e w'' h => ⟨h.1, hb.trans (h.2.mono hb.size)⟩
  have HE : Hid (∀ w', Below w1.heap.size w1 w' → Calls Tryd.prog 73 #[.int .i64 x.err] w' fun e w'' => e = .returned (.string ⟨(errT x.err).toArray⟩) ∧ Below w1.heap.size w1 w'') := fun w' hb => (errno_any x.err w').mono fun e w'' h => ⟨h.1, hb.trans (h.2.mono hb.size)⟩
  have HDT : Hid (∀ w', Below w1.heap.size w1 w' → Calls Tryd.prog 25 #[.agg #[.int .i64 x.dp, .int .i64 x.dc]] w' fun e w'' => e = .returned (.string ⟨(dotT x.dp x.dc).toArray⟩) ∧ Below w1.heap.size w1 w'') := fun w' hb => (dot_any x.dp x.dc hx.2.1 hx.2.2 w' ((hd.below hb1).below hb)).mono fun e w'' h => ⟨h.1, hb.trans (h.2.mono hb.size)⟩
  have hlT := lineT_bd x.op
  have hlA := Lib.itoa_length_le x.at_ hx.1.1 hx.1.2
  have hlE := errT_bd x.err
  have hlD := dotT_bd x.dp x.dc hx.2.1 hx.2.2
  have hev : eventT x = Lib.itoa x.at_ ++ [58, 32] ++ (if C = 0 then lineT x.op else [63]) ++ [44, 32] ++ errT x.err ++ (if x.err = 0 ∧ ¬ (x.dp = 0 ∧ x.dc = 0) then 32 :: dotT x.dp x.dc else []) := by unfold eventT; rw [hC]
  have HEV := Lib.hid hev
  obtain ⟨A, hA⟩ : ∃ o : ByteArray, ⟨(Lib.itoa x.at_).toArray⟩ = o := ⟨_, rfl⟩
  obtain ⟨E, hE⟩ : ∃ o : ByteArray, ⟨(errT x.err).toArray⟩ = o := ⟨_, rfl⟩
  obtain ⟨DT, hDT⟩ : ∃ o : ByteArray, ⟨(dotT x.dp x.dc).toArray⟩ = o := ⟨_, rfl⟩
  have HEQ := Lib.hid (And.intro hL (And.intro hA (And.intro hE hDT)))
  rw [hA] at HI
  rw [hE] at HE
  rw [hDT] at HDT
  have hzL : L.size ≤ 1717 := by rw [← hL]; exact hlT
  have hzA : A.size ≤ 21 := by rw [← hA]; exact hlA
  have hzE : E.size ≤ 7 := by rw [← hE]; exact hlE
  have hzD : DT.size ≤ 43 := by rw [← hDT]; exact hlD
  obtain ⟨at_, ⟨k, p, t, n, a, m, u, v⟩, er, dp, dc⟩ := x
  simp only at HL HI HE HDT HEV
  have c0 : w1.cell? ⟨w.heap.size, 0, none⟩ = some (.int .i64 at_) := by simp [World.cell?, hbl, EvR.cells]
  have c1 : w1.cell? ⟨w.heap.size, 1, none⟩ = some (.int .i64 k) := by simp [World.cell?, hbl, EvR.cells]
  have c2 : w1.cell? ⟨w.heap.size, 2, none⟩ = some (.int .i64 p) := by simp [World.cell?, hbl, EvR.cells]
  have c3 : w1.cell? ⟨w.heap.size, 3, none⟩ = some (.int .i64 t) := by simp [World.cell?, hbl, EvR.cells]
  have c4 : w1.cell? ⟨w.heap.size, 4, none⟩ = some (.int .i64 n) := by simp [World.cell?, hbl, EvR.cells]
  have c5 : w1.cell? ⟨w.heap.size, 5, none⟩ = some (.int .i64 a) := by simp [World.cell?, hbl, EvR.cells]
  have c6 : w1.cell? ⟨w.heap.size, 6, none⟩ = some (.int .i64 m) := by simp [World.cell?, hbl, EvR.cells]
  have c7 : w1.cell? ⟨w.heap.size, 7, none⟩ = some (.string u) := by simp [World.cell?, hbl, EvR.cells]
  have c8 : w1.cell? ⟨w.heap.size, 8, none⟩ = some (.string v) := by simp [World.cell?, hbl, EvR.cells]
  have c9 : w1.cell? ⟨w.heap.size, 9, none⟩ = some (.int .i64 er) := by simp [World.cell?, hbl, EvR.cells]
  have c10 : w1.cell? ⟨w.heap.size, 10, none⟩ = some (.int .i64 dp) := by simp [World.cell?, hbl, EvR.cells]
  have c11 : w1.cell? ⟨w.heap.size, 11, none⟩ = some (.int .i64 dc) := by simp [World.cell?, hbl, EvR.cells]
  have HCELL : Hid (∀ w', Below w1.heap.size w1 w' → Below w1.heap.size w1 w' ∧ w'.cell? ⟨w.heap.size, 0, none⟩ = some (.int .i64 at_) ∧ w'.cell? ⟨w.heap.size, 9, none⟩ = some (.int .i64 er) ∧ w'.cell? ⟨w.heap.size, 10, none⟩ = some (.int .i64 dp) ∧ w'.cell? ⟨w.heap.size, 11, none⟩ = some (.int .i64 dc)) := fun w' hb => ⟨hb, cell_below hb c0, cell_below hb c9, cell_below hb c10, cell_below hb c11⟩
  clear hbl hb1 hd hlT hlA hlE hlD hev hL hC hA hE hDT hx
  show Calls Tryd.prog 23 #[.agg #[.int .i64 at_, .int .i64 k, .int .i64 p, .int .i64 t, .int .i64 n, .int .i64 a, .int .i64 m, .string u, .string v, .int .i64 er, .int .i64 dp, .int .i64 dc]] w _
  simp only [EvR.cells, OpR.cells] at HL hw1
  obtain ⟨R, hR⟩ : ∃ R : ByteArray, ⟨(eventT ⟨at_, ⟨k, p, t, n, a, m, u, v⟩, er, dp, dc⟩).toArray⟩ = R := ⟨_, rfl⟩
  have HR := Lib.hid hR
  rw [hR]
  clear hR
  go_enter Tryd.func23, Tryd.ntmps23
  go_wp2_with fail
  refine (HL.out w1 (Below.refl _ _)).mono ?_
  rintro e w2 ⟨rfl, hb⟩
  have HB2 := Lib.hid hb
  obtain ⟨-, d0, d9, d10, d11⟩ := HCELL.out w2 hb
  clear hb c0 c1 c2 c3 c4 c5 c6 c7 c8 c9 c10 c11
  by_cases h0 : C = 0
  · obtain ⟨U1, hU1⟩ : ∃ T : ByteArray, A ++ ⟨#[58, 32]⟩ = T := ⟨_, rfl⟩
    obtain ⟨U2, hU2⟩ : ∃ T : ByteArray, U1 ++ L = T := ⟨_, rfl⟩
    obtain ⟨U3, hU3⟩ : ∃ T : ByteArray, U2 ++ ⟨#[44, 32]⟩ = T := ⟨_, rfl⟩
    obtain ⟨U4, hU4⟩ : ∃ T : ByteArray, U3 ++ E = T := ⟨_, rfl⟩
    have hs1 : U1.size ≤ 23 := by rw [← hU1, ByteArray.size_append]; show A.size + 2 ≤ 23; omega
    have hs2 : U2.size ≤ 1740 := by rw [← hU2, ByteArray.size_append]; show U1.size + L.size ≤ 1740; omega
    have hs3 : U3.size ≤ 1742 := by rw [← hU3, ByteArray.size_append]; show U2.size + 2 ≤ 1742; omega
    have hs4 : U4.size ≤ 1749 := by rw [← hU4, ByteArray.size_append]; omega
    have hg1 : ¬ 9223372036854775807 < A.size + 2 := by omega
    have hg2 : ¬ 9223372036854775807 < U1.size + L.size := by omega
    have hg3 : ¬ 9223372036854775807 < U2.size + 2 := by omega
    have hg4 : ¬ 9223372036854775807 < U3.size + E.size := by omega
    have HU4 : Hid (U4 = ⟨(Lib.itoa at_ ++ [58, 32] ++ (if C = 0 then lineT ⟨k, p, t, n, a, m, u, v⟩ else [63]) ++ [44, 32] ++ errT er).toArray⟩) := by
      obtain ⟨q1, q2, q3, q4⟩ := HEQ.out
      rw [if_pos h0, ← hU4, ← hU3, ← hU2, ← hU1, ← q2, ← q3, ← q1]
      apply ByteArray.ext
      simp
    clear hs1 hs2 hs3
    go_wp2_with fail
    go_cut [5] (fun t wc => t = .string U4 ∧ Hid (Below w1.heap.size w1 wc))
    case first =>
      go_region_held3 (fun w' => Below w1.heap.size w1 w' ∧ w'.cell? ⟨w.heap.size, 0, none⟩ = some (.int .i64 at_) ∧ w'.cell? ⟨w.heap.size, 9, none⟩ = some (.int .i64 er) ∧ w'.cell? ⟨w.heap.size, 10, none⟩ = some (.int .i64 dp) ∧ w'.cell? ⟨w.heap.size, 11, none⟩ = some (.int .i64 dc))
        (first | exact HCELL.out _ (by assumption) | exact HCELL.out _ HB2.out | exact HCELL.out _ HB2.out.drew | (go_split_ands; exact HCELL.out _ (by assumption)))
        (first | (go_at_call 72; refine (HI.out _ ?_).mono ?_; (first | assumption | exact (Below.refl _ _).drew | exact Below.refl _ _ | exact HB2.out | exact HB2.out.drew | (go_split_ands; assumption)); rintro e w' ⟨rfl, hq⟩) | (go_at_call 73; refine (HE.out _ ?_).mono ?_; (first | assumption | exact (Below.refl _ _).drew | exact Below.refl _ _ | exact HB2.out | exact HB2.out.drew | (go_split_ands; assumption)); rintro e w' ⟨rfl, hq⟩))
      all_goals
        go_wp2_with fail
        go_meet
        exact ⟨rfl, Lib.hid (by assumption)⟩
    case rest =>
      obtain ⟨rfl, HBY⟩ := hcut
      obtain ⟨w4, rfl⟩ : ∃ w4 : World, w4 = wc := ⟨_, rfl⟩
      clear HB2 d0 d9 d10 d11 hU1 hU2 hU3 hU4 hg1 hg2 hg3 hg4
      obtain ⟨-, d0, d9, d10, d11⟩ := HCELL.out w4 HBY.out
      by_cases he : er = 0
      · subst he
        have heq : ∀ w', (Op.equalIn 10000 32 (.agg #[.int .i64 dp, .int .i64 dc]) (.agg #[.int .i64 0, .int .i64 0])).run Tryd.prog w' = .ok (dp == 0 && dc == 0) w' := fun w' => dot_equal w' dp dc 0 0
        obtain ⟨bz, hbz⟩ : ∃ b, (dp == 0 && dc == 0) = b := ⟨_, rfl⟩
        rw [hbz] at heq
        cases bz with
        | true =>
          have hz0 : dp = 0 ∧ dc = 0 := by simpa using hbz
          clear hbz
          have HV : Hid (U4 = R) := by
            rw [← HR.out, HEV.out, HU4.out]
            apply ByteArray.ext
            simp [hz0]
          go_wp2_with fail
          go_ret
          exact ⟨by rw [← HV.out]; rfl, HB1.out.trans (HBY.out.mono HB1.out.size)⟩
        | false =>
          have hz0 : ¬ (dp = 0 ∧ dc = 0) := by simpa using hbz
          clear hbz
          obtain ⟨V1, hV1⟩ : ∃ T : ByteArray, (⟨#[32]⟩ : ByteArray) ++ DT = T := ⟨_, rfl⟩
          obtain ⟨V2, hV2⟩ : ∃ T : ByteArray, U4 ++ V1 = T := ⟨_, rfl⟩
          have hv1 : V1.size ≤ 44 := by rw [← hV1]; exact sp_size _ _ hzD
          have hg5 : ¬ 9223372036854775807 < 1 + DT.size := by omega
          have hg6 : ¬ 9223372036854775807 < U4.size + V1.size := by omega
          have HV : Hid (V2 = R) := by
            obtain ⟨q1, q2, q3, q4⟩ := HEQ.out
            rw [← HR.out, HEV.out, ← hV2, ← hV1, HU4.out, ← q4]
            apply ByteArray.ext
            simp [hz0]
            try exact fun h => hz0 ⟨rfl, h⟩
          go_wp2_with fail
          refine (HDT.out w4 HBY.out).mono ?_
          rintro e w5 ⟨rfl, hb5⟩
          have HB5 := Lib.hid hb5
          clear hb5 d0 d9 d10 d11
          go_wp2_with fail
          go_ret
          exact ⟨by rw [← HV.out]; rfl, HB1.out.trans (HB5.out.mono HB1.out.size)⟩
      · have HV : Hid (U4 = R) := by
          rw [← HR.out, HEV.out, HU4.out]
          apply ByteArray.ext
          simp [he]
        go_wp2_with fail
        go_ret
        exact ⟨by rw [← HV.out]; rfl, HB1.out.trans (HBY.out.mono HB1.out.size)⟩
  · obtain ⟨U1, hU1⟩ : ∃ T : ByteArray, A ++ ⟨#[58, 32]⟩ = T := ⟨_, rfl⟩
    obtain ⟨U2, hU2⟩ : ∃ T : ByteArray, U1 ++ (⟨#[63]⟩ : ByteArray) = T := ⟨_, rfl⟩
    obtain ⟨U3, hU3⟩ : ∃ T : ByteArray, U2 ++ ⟨#[44, 32]⟩ = T := ⟨_, rfl⟩
    obtain ⟨U4, hU4⟩ : ∃ T : ByteArray, U3 ++ E = T := ⟨_, rfl⟩
    have hs1 : U1.size ≤ 23 := by rw [← hU1, ByteArray.size_append]; show A.size + 2 ≤ 23; omega
    have hs2 : U2.size ≤ 1740 := by rw [← hU2, ByteArray.size_append]; show U1.size + 1 ≤ 1740; omega
    have hs3 : U3.size ≤ 1742 := by rw [← hU3, ByteArray.size_append]; show U2.size + 2 ≤ 1742; omega
    have hs4 : U4.size ≤ 1749 := by rw [← hU4, ByteArray.size_append]; omega
    have hg1 : ¬ 9223372036854775807 < A.size + 2 := by omega
    have hg2 : ¬ 9223372036854775807 < U1.size + 1 := by omega
    have hg3 : ¬ 9223372036854775807 < U2.size + 2 := by omega
    have hg4 : ¬ 9223372036854775807 < U3.size + E.size := by omega
    have HU4 : Hid (U4 = ⟨(Lib.itoa at_ ++ [58, 32] ++ (if C = 0 then lineT ⟨k, p, t, n, a, m, u, v⟩ else [63]) ++ [44, 32] ++ errT er).toArray⟩) := by
      obtain ⟨q1, q2, q3, q4⟩ := HEQ.out
      rw [if_neg h0, ← hU4, ← hU3, ← hU2, ← hU1, ← q2, ← q3]
      apply ByteArray.ext
      simp
    clear hs1 hs2 hs3
    go_wp2_with fail
    go_cut [5] (fun t wc => t = .string U4 ∧ Hid (Below w1.heap.size w1 wc))
    case first =>
      go_region_held3 (fun w' => Below w1.heap.size w1 w' ∧ w'.cell? ⟨w.heap.size, 0, none⟩ = some (.int .i64 at_) ∧ w'.cell? ⟨w.heap.size, 9, none⟩ = some (.int .i64 er) ∧ w'.cell? ⟨w.heap.size, 10, none⟩ = some (.int .i64 dp) ∧ w'.cell? ⟨w.heap.size, 11, none⟩ = some (.int .i64 dc))
        (first | exact HCELL.out _ (by assumption) | exact HCELL.out _ HB2.out | exact HCELL.out _ HB2.out.drew | (go_split_ands; exact HCELL.out _ (by assumption)))
        (first | (go_at_call 72; refine (HI.out _ ?_).mono ?_; (first | assumption | exact (Below.refl _ _).drew | exact Below.refl _ _ | exact HB2.out | exact HB2.out.drew | (go_split_ands; assumption)); rintro e w' ⟨rfl, hq⟩) | (go_at_call 73; refine (HE.out _ ?_).mono ?_; (first | assumption | exact (Below.refl _ _).drew | exact Below.refl _ _ | exact HB2.out | exact HB2.out.drew | (go_split_ands; assumption)); rintro e w' ⟨rfl, hq⟩))
      all_goals
        go_wp2_with fail
        go_meet
        exact ⟨rfl, Lib.hid (by assumption)⟩
    case rest =>
      obtain ⟨rfl, HBY⟩ := hcut
      obtain ⟨w4, rfl⟩ : ∃ w4 : World, w4 = wc := ⟨_, rfl⟩
      clear HB2 d0 d9 d10 d11 hU1 hU2 hU3 hU4 hg1 hg2 hg3 hg4
      obtain ⟨-, d0, d9, d10, d11⟩ := HCELL.out w4 HBY.out
      by_cases he : er = 0
      · subst he
        have heq : ∀ w', (Op.equalIn 10000 32 (.agg #[.int .i64 dp, .int .i64 dc]) (.agg #[.int .i64 0, .int .i64 0])).run Tryd.prog w' = .ok (dp == 0 && dc == 0) w' := fun w' => dot_equal w' dp dc 0 0
        obtain ⟨bz, hbz⟩ : ∃ b, (dp == 0 && dc == 0) = b := ⟨_, rfl⟩
        rw [hbz] at heq
        cases bz with
        | true =>
          have hz0 : dp = 0 ∧ dc = 0 := by simpa using hbz
          clear hbz
          have HV : Hid (U4 = R) := by
            rw [← HR.out, HEV.out, HU4.out]
            apply ByteArray.ext
            simp [hz0]
          go_wp2_with fail
          go_ret
          exact ⟨by rw [← HV.out]; rfl, HB1.out.trans (HBY.out.mono HB1.out.size)⟩
        | false =>
          have hz0 : ¬ (dp = 0 ∧ dc = 0) := by simpa using hbz
          clear hbz
          obtain ⟨V1, hV1⟩ : ∃ T : ByteArray, (⟨#[32]⟩ : ByteArray) ++ DT = T := ⟨_, rfl⟩
          obtain ⟨V2, hV2⟩ : ∃ T : ByteArray, U4 ++ V1 = T := ⟨_, rfl⟩
          have hv1 : V1.size ≤ 44 := by rw [← hV1]; exact sp_size _ _ hzD
          have hg5 : ¬ 9223372036854775807 < 1 + DT.size := by omega
          have hg6 : ¬ 9223372036854775807 < U4.size + V1.size := by omega
          have HV : Hid (V2 = R) := by
            obtain ⟨q1, q2, q3, q4⟩ := HEQ.out
            rw [← HR.out, HEV.out, ← hV2, ← hV1, HU4.out, ← q4]
            apply ByteArray.ext
            simp [hz0]
            try exact fun h => hz0 ⟨rfl, h⟩
          go_wp2_with fail
          refine (HDT.out w4 HBY.out).mono ?_
          rintro e w5 ⟨rfl, hb5⟩
          have HB5 := Lib.hid hb5
          clear hb5 d0 d9 d10 d11
          go_wp2_with fail
          go_ret
          exact ⟨by rw [← HV.out]; rfl, HB1.out.trans (HB5.out.mono HB1.out.size)⟩
      · have HV : Hid (U4 = R) := by
          rw [← HR.out, HEV.out, HU4.out]
          apply ByteArray.ext
          simp [he]
        go_wp2_with fail
        go_ret
        exact ⟨by rw [← HV.out]; rfl, HB1.out.trans (HBY.out.mono HB1.out.size)⟩

set_option maxHeartbeats 8000000 in
set_option maxRecDepth 100000 in
theorem revent_any (x : EvR) (hx : x.ok) (w : World) (hd : Door w) :
    Calls Tryd.prog 24 #[.agg x.cells] w fun e w' => e = .returned (.string ⟨(eventT x).toArray⟩) ∧ Below w.heap.size w w' := by
  obtain ⟨w1, hw1⟩ : ∃ W, w.alloc (.cells x.cells 34) = W := ⟨_, rfl⟩
  have hb1 : Below w.heap.size w w1 := by rw [← hw1]; exact (Below.refl _ _).alloc (Nat.le_refl _) _
  have hbl : w1.heap[w.heap.size]? = some (.cells x.cells 34 (0, 0)) := by rw [← hw1]; exact World.alloc_heap_new _ _
  have HB1 := Lib.hid hb1
  obtain ⟨L, hL⟩ : ∃ o : ByteArray, ⟨(lineT x.op).toArray⟩ = o := ⟨_, rfl⟩
  obtain ⟨C, hC⟩ : ∃ C, checkM x.op = C := ⟨_, rfl⟩
  have HL : Hid (∀ w', Below w1.heap.size w1 w' → Calls Tryd.prog 43 #[.agg x.op.cells] w' fun e w'' => e = .returned (.tuple #[.string L, .int .i64 C]) ∧ Below w1.heap.size w1 w'') := fun w' hb => (rline_any x.op w' ((hd.below hb1).below hb)).mono fun e w'' h => ⟨by rw [← hL, ← hC]; exact h.1, hb.trans (h.2.mono hb.size)⟩
  have HI : Hid (∀ w', Below w1.heap.size w1 w' → Calls Tryd.prog 72 #[.int .i64 x.at_] w' fun e w'' => e = .returned (.string ⟨(Lib.itoa x.at_).toArray⟩) ∧ Below w1.heap.size w1 w'') := fun w' hb => (itoa_any x.at_ hx.1.1 hx.1.2 w' ((hd.below hb1).below hb)).mono fun e w'' h => ⟨h.1, hb.trans (h.2.mono hb.size)⟩
  have HE : Hid (∀ w', Below w1.heap.size w1 w' → Calls Tryd.prog 74 #[.int .i64 x.err] w' fun e w'' => e = .returned (.string ⟨(errT x.err).toArray⟩) ∧ Below w1.heap.size w1 w'') := fun w' hb => (rword_any x.err w').mono fun e w'' h => ⟨h.1, hb.trans (h.2.mono hb.size)⟩
  have HDT : Hid (∀ w', Below w1.heap.size w1 w' → Calls Tryd.prog 29 #[.agg #[.int .i64 x.dp, .int .i64 x.dc]] w' fun e w'' => e = .returned (.string ⟨(dotT x.dp x.dc).toArray⟩) ∧ Below w1.heap.size w1 w'') := fun w' hb => (rdot_any x.dp x.dc hx.2.1 hx.2.2 w' ((hd.below hb1).below hb)).mono fun e w'' h => ⟨h.1, hb.trans (h.2.mono hb.size)⟩
  have hlT := lineT_bd x.op
  have hlA := Lib.itoa_length_le x.at_ hx.1.1 hx.1.2
  have hlE := errT_bd x.err
  have hlD := dotT_bd x.dp x.dc hx.2.1 hx.2.2
  have hev : eventT x = Lib.itoa x.at_ ++ [58, 32] ++ (if C = 0 then lineT x.op else [63]) ++ [44, 32] ++ errT x.err ++ (if x.err = 0 ∧ ¬ (x.dp = 0 ∧ x.dc = 0) then 32 :: dotT x.dp x.dc else []) := by unfold eventT; rw [hC]
  have HEV := Lib.hid hev
  obtain ⟨A, hA⟩ : ∃ o : ByteArray, ⟨(Lib.itoa x.at_).toArray⟩ = o := ⟨_, rfl⟩
  obtain ⟨E, hE⟩ : ∃ o : ByteArray, ⟨(errT x.err).toArray⟩ = o := ⟨_, rfl⟩
  obtain ⟨DT, hDT⟩ : ∃ o : ByteArray, ⟨(dotT x.dp x.dc).toArray⟩ = o := ⟨_, rfl⟩
  have HEQ := Lib.hid (And.intro hL (And.intro hA (And.intro hE hDT)))
  rw [hA] at HI
  rw [hE] at HE
  rw [hDT] at HDT
  have hzL : L.size ≤ 1717 := by rw [← hL]; exact hlT
  have hzA : A.size ≤ 21 := by rw [← hA]; exact hlA
  have hzE : E.size ≤ 7 := by rw [← hE]; exact hlE
  have hzD : DT.size ≤ 43 := by rw [← hDT]; exact hlD
  obtain ⟨at_, ⟨k, p, t, n, a, m, u, v⟩, er, dp, dc⟩ := x
  simp only at HL HI HE HDT HEV
  have c0 : w1.cell? ⟨w.heap.size, 0, none⟩ = some (.int .i64 at_) := by simp [World.cell?, hbl, EvR.cells]
  have c1 : w1.cell? ⟨w.heap.size, 1, none⟩ = some (.int .i64 k) := by simp [World.cell?, hbl, EvR.cells]
  have c2 : w1.cell? ⟨w.heap.size, 2, none⟩ = some (.int .i64 p) := by simp [World.cell?, hbl, EvR.cells]
  have c3 : w1.cell? ⟨w.heap.size, 3, none⟩ = some (.int .i64 t) := by simp [World.cell?, hbl, EvR.cells]
  have c4 : w1.cell? ⟨w.heap.size, 4, none⟩ = some (.int .i64 n) := by simp [World.cell?, hbl, EvR.cells]
  have c5 : w1.cell? ⟨w.heap.size, 5, none⟩ = some (.int .i64 a) := by simp [World.cell?, hbl, EvR.cells]
  have c6 : w1.cell? ⟨w.heap.size, 6, none⟩ = some (.int .i64 m) := by simp [World.cell?, hbl, EvR.cells]
  have c7 : w1.cell? ⟨w.heap.size, 7, none⟩ = some (.string u) := by simp [World.cell?, hbl, EvR.cells]
  have c8 : w1.cell? ⟨w.heap.size, 8, none⟩ = some (.string v) := by simp [World.cell?, hbl, EvR.cells]
  have c9 : w1.cell? ⟨w.heap.size, 9, none⟩ = some (.int .i64 er) := by simp [World.cell?, hbl, EvR.cells]
  have c10 : w1.cell? ⟨w.heap.size, 10, none⟩ = some (.int .i64 dp) := by simp [World.cell?, hbl, EvR.cells]
  have c11 : w1.cell? ⟨w.heap.size, 11, none⟩ = some (.int .i64 dc) := by simp [World.cell?, hbl, EvR.cells]
  have HCELL : Hid (∀ w', Below w1.heap.size w1 w' → Below w1.heap.size w1 w' ∧ w'.cell? ⟨w.heap.size, 0, none⟩ = some (.int .i64 at_) ∧ w'.cell? ⟨w.heap.size, 9, none⟩ = some (.int .i64 er) ∧ w'.cell? ⟨w.heap.size, 10, none⟩ = some (.int .i64 dp) ∧ w'.cell? ⟨w.heap.size, 11, none⟩ = some (.int .i64 dc)) := fun w' hb => ⟨hb, cell_below hb c0, cell_below hb c9, cell_below hb c10, cell_below hb c11⟩
  clear hbl hb1 hd hlT hlA hlE hlD hev hL hC hA hE hDT hx
  show Calls Tryd.prog 24 #[.agg #[.int .i64 at_, .int .i64 k, .int .i64 p, .int .i64 t, .int .i64 n, .int .i64 a, .int .i64 m, .string u, .string v, .int .i64 er, .int .i64 dp, .int .i64 dc]] w _
  simp only [EvR.cells, OpR.cells] at HL hw1
  obtain ⟨R, hR⟩ : ∃ R : ByteArray, ⟨(eventT ⟨at_, ⟨k, p, t, n, a, m, u, v⟩, er, dp, dc⟩).toArray⟩ = R := ⟨_, rfl⟩
  have HR := Lib.hid hR
  rw [hR]
  clear hR
  go_enter Tryd.func24, Tryd.ntmps24
  go_wp2_with fail
  refine (HL.out w1 (Below.refl _ _)).mono ?_
  rintro e w2 ⟨rfl, hb⟩
  have HB2 := Lib.hid hb
  obtain ⟨-, d0, d9, d10, d11⟩ := HCELL.out w2 hb
  clear hb c0 c1 c2 c3 c4 c5 c6 c7 c8 c9 c10 c11
  by_cases h0 : C = 0
  · obtain ⟨U1, hU1⟩ : ∃ T : ByteArray, A ++ ⟨#[58, 32]⟩ = T := ⟨_, rfl⟩
    obtain ⟨U2, hU2⟩ : ∃ T : ByteArray, U1 ++ L = T := ⟨_, rfl⟩
    obtain ⟨U3, hU3⟩ : ∃ T : ByteArray, U2 ++ ⟨#[44, 32]⟩ = T := ⟨_, rfl⟩
    obtain ⟨U4, hU4⟩ : ∃ T : ByteArray, U3 ++ E = T := ⟨_, rfl⟩
    have hs1 : U1.size ≤ 23 := by rw [← hU1, ByteArray.size_append]; show A.size + 2 ≤ 23; omega
    have hs2 : U2.size ≤ 1740 := by rw [← hU2, ByteArray.size_append]; show U1.size + L.size ≤ 1740; omega
    have hs3 : U3.size ≤ 1742 := by rw [← hU3, ByteArray.size_append]; show U2.size + 2 ≤ 1742; omega
    have hs4 : U4.size ≤ 1749 := by rw [← hU4, ByteArray.size_append]; omega
    have hg1 : ¬ 9223372036854775807 < A.size + 2 := by omega
    have hg2 : ¬ 9223372036854775807 < U1.size + L.size := by omega
    have hg3 : ¬ 9223372036854775807 < U2.size + 2 := by omega
    have hg4 : ¬ 9223372036854775807 < U3.size + E.size := by omega
    have HU4 : Hid (U4 = ⟨(Lib.itoa at_ ++ [58, 32] ++ (if C = 0 then lineT ⟨k, p, t, n, a, m, u, v⟩ else [63]) ++ [44, 32] ++ errT er).toArray⟩) := by
      obtain ⟨q1, q2, q3, q4⟩ := HEQ.out
      rw [if_pos h0, ← hU4, ← hU3, ← hU2, ← hU1, ← q2, ← q3, ← q1]
      apply ByteArray.ext
      simp
    clear hs1 hs2 hs3
    go_wp2_with fail
    go_cut [5] (fun t wc => t = .string U4 ∧ Hid (Below w1.heap.size w1 wc))
    case first =>
      go_region_held3 (fun w' => Below w1.heap.size w1 w' ∧ w'.cell? ⟨w.heap.size, 0, none⟩ = some (.int .i64 at_) ∧ w'.cell? ⟨w.heap.size, 9, none⟩ = some (.int .i64 er) ∧ w'.cell? ⟨w.heap.size, 10, none⟩ = some (.int .i64 dp) ∧ w'.cell? ⟨w.heap.size, 11, none⟩ = some (.int .i64 dc))
        (first | exact HCELL.out _ (by assumption) | exact HCELL.out _ HB2.out | exact HCELL.out _ HB2.out.drew | (go_split_ands; exact HCELL.out _ (by assumption)))
        (first | (go_at_call 72; refine (HI.out _ ?_).mono ?_; (first | assumption | exact (Below.refl _ _).drew | exact Below.refl _ _ | exact HB2.out | exact HB2.out.drew | (go_split_ands; assumption)); rintro e w' ⟨rfl, hq⟩) | (go_at_call 74; refine (HE.out _ ?_).mono ?_; (first | assumption | exact (Below.refl _ _).drew | exact Below.refl _ _ | exact HB2.out | exact HB2.out.drew | (go_split_ands; assumption)); rintro e w' ⟨rfl, hq⟩))
      all_goals
        go_wp2_with fail
        go_meet
        exact ⟨rfl, Lib.hid (by assumption)⟩
    case rest =>
      obtain ⟨rfl, HBY⟩ := hcut
      obtain ⟨w4, rfl⟩ : ∃ w4 : World, w4 = wc := ⟨_, rfl⟩
      clear HB2 d0 d9 d10 d11 hU1 hU2 hU3 hU4 hg1 hg2 hg3 hg4
      obtain ⟨-, d0, d9, d10, d11⟩ := HCELL.out w4 HBY.out
      by_cases he : er = 0
      · subst he
        by_cases hp0 : dp = 0
        · subst hp0
          by_cases hc0 : dc = 0
          · subst hc0
            have hz0 : (0 : Int) = 0 ∧ (0 : Int) = 0 := ⟨rfl, rfl⟩
            have HV : Hid (U4 = R) := by
              rw [← HR.out, HEV.out, HU4.out]
              apply ByteArray.ext
              simp [hz0]
            go_wp2_with fail
            go_ret
            exact ⟨by rw [← HV.out]; rfl, HB1.out.trans (HBY.out.mono HB1.out.size)⟩
          · have hz0 : ¬ ((0 : Int) = 0 ∧ dc = 0) := fun h => hc0 h.2
            obtain ⟨V1, hV1⟩ : ∃ T : ByteArray, (⟨#[32]⟩ : ByteArray) ++ DT = T := ⟨_, rfl⟩
            obtain ⟨V2, hV2⟩ : ∃ T : ByteArray, U4 ++ V1 = T := ⟨_, rfl⟩
            have hv1 : V1.size ≤ 44 := by rw [← hV1]; exact sp_size _ _ hzD
            have hg5 : ¬ 9223372036854775807 < 1 + DT.size := by omega
            have hg6 : ¬ 9223372036854775807 < U4.size + V1.size := by omega
            have HV : Hid (V2 = R) := by
              obtain ⟨q1, q2, q3, q4⟩ := HEQ.out
              rw [← HR.out, HEV.out, ← hV2, ← hV1, HU4.out, ← q4]
              apply ByteArray.ext
              simp [hz0]
              try exact fun h => hz0 ⟨rfl, h⟩
            go_wp2_with fail
            refine (HDT.out w4 HBY.out).mono ?_
            rintro e w5 ⟨rfl, hb5⟩
            have HB5 := Lib.hid hb5
            clear hb5 d0 d9 d10 d11
            go_wp2_with fail
            go_ret
            exact ⟨by rw [← HV.out]; rfl, HB1.out.trans (HB5.out.mono HB1.out.size)⟩
        · have hz0 : ¬ (dp = 0 ∧ dc = 0) := fun h => hp0 h.1
          obtain ⟨V1, hV1⟩ : ∃ T : ByteArray, (⟨#[32]⟩ : ByteArray) ++ DT = T := ⟨_, rfl⟩
          obtain ⟨V2, hV2⟩ : ∃ T : ByteArray, U4 ++ V1 = T := ⟨_, rfl⟩
          have hv1 : V1.size ≤ 44 := by rw [← hV1]; exact sp_size _ _ hzD
          have hg5 : ¬ 9223372036854775807 < 1 + DT.size := by omega
          have hg6 : ¬ 9223372036854775807 < U4.size + V1.size := by omega
          have HV : Hid (V2 = R) := by
            obtain ⟨q1, q2, q3, q4⟩ := HEQ.out
            rw [← HR.out, HEV.out, ← hV2, ← hV1, HU4.out, ← q4]
            apply ByteArray.ext
            simp [hz0]
            try exact fun h => hz0 ⟨rfl, h⟩
          go_wp2_with fail
          refine (HDT.out w4 HBY.out).mono ?_
          rintro e w5 ⟨rfl, hb5⟩
          have HB5 := Lib.hid hb5
          clear hb5 d0 d9 d10 d11
          go_wp2_with fail
          go_ret
          exact ⟨by rw [← HV.out]; rfl, HB1.out.trans (HB5.out.mono HB1.out.size)⟩
      · have HV : Hid (U4 = R) := by
          rw [← HR.out, HEV.out, HU4.out]
          apply ByteArray.ext
          simp [he]
        go_wp2_with fail
        go_ret
        exact ⟨by rw [← HV.out]; rfl, HB1.out.trans (HBY.out.mono HB1.out.size)⟩
  · obtain ⟨U1, hU1⟩ : ∃ T : ByteArray, A ++ ⟨#[58, 32]⟩ = T := ⟨_, rfl⟩
    obtain ⟨U2, hU2⟩ : ∃ T : ByteArray, U1 ++ (⟨#[63]⟩ : ByteArray) = T := ⟨_, rfl⟩
    obtain ⟨U3, hU3⟩ : ∃ T : ByteArray, U2 ++ ⟨#[44, 32]⟩ = T := ⟨_, rfl⟩
    obtain ⟨U4, hU4⟩ : ∃ T : ByteArray, U3 ++ E = T := ⟨_, rfl⟩
    have hs1 : U1.size ≤ 23 := by rw [← hU1, ByteArray.size_append]; show A.size + 2 ≤ 23; omega
    have hs2 : U2.size ≤ 1740 := by rw [← hU2, ByteArray.size_append]; show U1.size + 1 ≤ 1740; omega
    have hs3 : U3.size ≤ 1742 := by rw [← hU3, ByteArray.size_append]; show U2.size + 2 ≤ 1742; omega
    have hs4 : U4.size ≤ 1749 := by rw [← hU4, ByteArray.size_append]; omega
    have hg1 : ¬ 9223372036854775807 < A.size + 2 := by omega
    have hg2 : ¬ 9223372036854775807 < U1.size + 1 := by omega
    have hg3 : ¬ 9223372036854775807 < U2.size + 2 := by omega
    have hg4 : ¬ 9223372036854775807 < U3.size + E.size := by omega
    have HU4 : Hid (U4 = ⟨(Lib.itoa at_ ++ [58, 32] ++ (if C = 0 then lineT ⟨k, p, t, n, a, m, u, v⟩ else [63]) ++ [44, 32] ++ errT er).toArray⟩) := by
      obtain ⟨q1, q2, q3, q4⟩ := HEQ.out
      rw [if_neg h0, ← hU4, ← hU3, ← hU2, ← hU1, ← q2, ← q3]
      apply ByteArray.ext
      simp
    clear hs1 hs2 hs3
    go_wp2_with fail
    go_cut [5] (fun t wc => t = .string U4 ∧ Hid (Below w1.heap.size w1 wc))
    case first =>
      go_region_held3 (fun w' => Below w1.heap.size w1 w' ∧ w'.cell? ⟨w.heap.size, 0, none⟩ = some (.int .i64 at_) ∧ w'.cell? ⟨w.heap.size, 9, none⟩ = some (.int .i64 er) ∧ w'.cell? ⟨w.heap.size, 10, none⟩ = some (.int .i64 dp) ∧ w'.cell? ⟨w.heap.size, 11, none⟩ = some (.int .i64 dc))
        (first | exact HCELL.out _ (by assumption) | exact HCELL.out _ HB2.out | exact HCELL.out _ HB2.out.drew | (go_split_ands; exact HCELL.out _ (by assumption)))
        (first | (go_at_call 72; refine (HI.out _ ?_).mono ?_; (first | assumption | exact (Below.refl _ _).drew | exact Below.refl _ _ | exact HB2.out | exact HB2.out.drew | (go_split_ands; assumption)); rintro e w' ⟨rfl, hq⟩) | (go_at_call 74; refine (HE.out _ ?_).mono ?_; (first | assumption | exact (Below.refl _ _).drew | exact Below.refl _ _ | exact HB2.out | exact HB2.out.drew | (go_split_ands; assumption)); rintro e w' ⟨rfl, hq⟩))
      all_goals
        go_wp2_with fail
        go_meet
        exact ⟨rfl, Lib.hid (by assumption)⟩
    case rest =>
      obtain ⟨rfl, HBY⟩ := hcut
      obtain ⟨w4, rfl⟩ : ∃ w4 : World, w4 = wc := ⟨_, rfl⟩
      clear HB2 d0 d9 d10 d11 hU1 hU2 hU3 hU4 hg1 hg2 hg3 hg4
      obtain ⟨-, d0, d9, d10, d11⟩ := HCELL.out w4 HBY.out
      by_cases he : er = 0
      · subst he
        by_cases hp0 : dp = 0
        · subst hp0
          by_cases hc0 : dc = 0
          · subst hc0
            have hz0 : (0 : Int) = 0 ∧ (0 : Int) = 0 := ⟨rfl, rfl⟩
            have HV : Hid (U4 = R) := by
              rw [← HR.out, HEV.out, HU4.out]
              apply ByteArray.ext
              simp [hz0]
            go_wp2_with fail
            go_ret
            exact ⟨by rw [← HV.out]; rfl, HB1.out.trans (HBY.out.mono HB1.out.size)⟩
          · have hz0 : ¬ ((0 : Int) = 0 ∧ dc = 0) := fun h => hc0 h.2
            obtain ⟨V1, hV1⟩ : ∃ T : ByteArray, (⟨#[32]⟩ : ByteArray) ++ DT = T := ⟨_, rfl⟩
            obtain ⟨V2, hV2⟩ : ∃ T : ByteArray, U4 ++ V1 = T := ⟨_, rfl⟩
            have hv1 : V1.size ≤ 44 := by rw [← hV1]; exact sp_size _ _ hzD
            have hg5 : ¬ 9223372036854775807 < 1 + DT.size := by omega
            have hg6 : ¬ 9223372036854775807 < U4.size + V1.size := by omega
            have HV : Hid (V2 = R) := by
              obtain ⟨q1, q2, q3, q4⟩ := HEQ.out
              rw [← HR.out, HEV.out, ← hV2, ← hV1, HU4.out, ← q4]
              apply ByteArray.ext
              simp [hz0]
              try exact fun h => hz0 ⟨rfl, h⟩
            go_wp2_with fail
            refine (HDT.out w4 HBY.out).mono ?_
            rintro e w5 ⟨rfl, hb5⟩
            have HB5 := Lib.hid hb5
            clear hb5 d0 d9 d10 d11
            go_wp2_with fail
            go_ret
            exact ⟨by rw [← HV.out]; rfl, HB1.out.trans (HB5.out.mono HB1.out.size)⟩
        · have hz0 : ¬ (dp = 0 ∧ dc = 0) := fun h => hp0 h.1
          obtain ⟨V1, hV1⟩ : ∃ T : ByteArray, (⟨#[32]⟩ : ByteArray) ++ DT = T := ⟨_, rfl⟩
          obtain ⟨V2, hV2⟩ : ∃ T : ByteArray, U4 ++ V1 = T := ⟨_, rfl⟩
          have hv1 : V1.size ≤ 44 := by rw [← hV1]; exact sp_size _ _ hzD
          have hg5 : ¬ 9223372036854775807 < 1 + DT.size := by omega
          have hg6 : ¬ 9223372036854775807 < U4.size + V1.size := by omega
          have HV : Hid (V2 = R) := by
            obtain ⟨q1, q2, q3, q4⟩ := HEQ.out
            rw [← HR.out, HEV.out, ← hV2, ← hV1, HU4.out, ← q4]
            apply ByteArray.ext
            simp [hz0]
            try exact fun h => hz0 ⟨rfl, h⟩
          go_wp2_with fail
          refine (HDT.out w4 HBY.out).mono ?_
          rintro e w5 ⟨rfl, hb5⟩
          have HB5 := Lib.hid hb5
          clear hb5 d0 d9 d10 d11
          go_wp2_with fail
          go_ret
          exact ⟨by rw [← HV.out]; rfl, HB1.out.trans (HB5.out.mono HB1.out.size)⟩
      · have HV : Hid (U4 = R) := by
          rw [← HR.out, HEV.out, HU4.out]
          apply ByteArray.ext
          simp [he]
        go_wp2_with fail
        go_ret
        exact ⟨by rw [← HV.out]; rfl, HB1.out.trans (HBY.out.mono HB1.out.size)⟩
end Go.Proofs.YtmeneoanmfpecaaDoor
