/- package hearsayref37: an operation's line. -/
import Derived.StillTailTactics
import Derived.Deep.Cut
import Derived.Deep.DeepCutAuto
import Derived.Deep.RegionHeld3
import Derived.Test.YtmeneoanmfpecaaDoorCheckSame
namespace Go.Proofs.YtmeneoanmfpecaaDoor
set_option linter.unusedVariables false
set_option linter.unusedSimpArgs false
open Go.RowKit

theorem sp_size (o : ByteArray) (n : Nat) (h : o.size ≤ n) : ((⟨#[32]⟩ : ByteArray) ++ o).size ≤ n + 1 := by rw [ByteArray.size_append]; show 1 + o.size ≤ n + 1; omega

set_option maxHeartbeats 8000000 in
set_option maxRecDepth 100000 in
theorem rline_0 (p t n a m : Int) (u v : ByteArray) (HCK : Hid (checkM ⟨0, p, t, n, a, m, u, v⟩ = 0)) (w : World) (HD : Hid (Door w)) (S : ByteArray) (HS : Hid (⟨(lineM ⟨0, p, t, n, a, m, u, v⟩).toArray⟩ = S)) :
    Calls Tryd.prog 43 #[.agg #[.int .i64 0, .int .i64 p, .int .i64 t, .int .i64 n, .int .i64 a, .int .i64 m, .string u, .string v]] w fun e w' => e = .returned (.tuple #[.string S, .int .i64 0]) ∧ Below w.heap.size w w' := by
  obtain ⟨w1, hw1⟩ : ∃ W, w.alloc (.cells #[.int .i64 0, .int .i64 p, .int .i64 t, .int .i64 n, .int .i64 a, .int .i64 m, .string u, .string v] 30) = W := ⟨_, rfl⟩
  have hb1 : Below w.heap.size w w1 := by rw [← hw1]; exact (Below.refl _ _).alloc (Nat.le_refl _) _
  have hbl : w1.heap[w.heap.size]? = some (.cells #[.int .i64 0, .int .i64 p, .int .i64 t, .int .i64 n, .int .i64 a, .int .i64 m, .string u, .string v] 30 (0, 0)) := by rw [← hw1]; exact World.alloc_heap_new _ _
  have c0 : w1.cell? ⟨w.heap.size, 0, none⟩ = some (.int .i64 0) := by simp [World.cell?, hbl]
  have c1 : w1.cell? ⟨w.heap.size, 1, none⟩ = some (.int .i64 p) := by simp [World.cell?, hbl]
  have c2 : w1.cell? ⟨w.heap.size, 2, none⟩ = some (.int .i64 t) := by simp [World.cell?, hbl]
  have c3 : w1.cell? ⟨w.heap.size, 3, none⟩ = some (.int .i64 n) := by simp [World.cell?, hbl]
  have c4 : w1.cell? ⟨w.heap.size, 4, none⟩ = some (.int .i64 a) := by simp [World.cell?, hbl]
  have c5 : w1.cell? ⟨w.heap.size, 5, none⟩ = some (.int .i64 m) := by simp [World.cell?, hbl]
  have c6 : w1.cell? ⟨w.heap.size, 6, none⟩ = some (.string u) := by simp [World.cell?, hbl]
  have c7 : w1.cell? ⟨w.heap.size, 7, none⟩ = some (.string v) := by simp [World.cell?, hbl]
  have HCELL : Hid (∀ w', Below w1.heap.size w1 w' → w'.cell? ⟨w.heap.size, 0, none⟩ = some (.int .i64 0) ∧ w'.cell? ⟨w.heap.size, 1, none⟩ = some (.int .i64 p) ∧ w'.cell? ⟨w.heap.size, 2, none⟩ = some (.int .i64 t) ∧ w'.cell? ⟨w.heap.size, 3, none⟩ = some (.int .i64 n) ∧ w'.cell? ⟨w.heap.size, 4, none⟩ = some (.int .i64 a) ∧ w'.cell? ⟨w.heap.size, 5, none⟩ = some (.int .i64 m) ∧ w'.cell? ⟨w.heap.size, 6, none⟩ = some (.string u) ∧ w'.cell? ⟨w.heap.size, 7, none⟩ = some (.string v)) := fun w' hb => ⟨cell_below hb c0, cell_below hb c1, cell_below hb c2, cell_below hb c3, cell_below hb c4, cell_below hb c5, cell_below hb c6, cell_below hb c7⟩
  have HB1 := Lib.hid hb1
  have HD1 := Lib.hid (HD.out.below hb1)
  have hck := rcheck_any ⟨0, p, t, n, a, m, u, v⟩ w1
  rw [rcheck_eq, HCK.out] at hck
  have HK : Hid (Calls Tryd.prog 59 #[.agg #[.int .i64 0, .int .i64 p, .int .i64 t, .int .i64 n, .int .i64 a, .int .i64 m, .string u, .string v]] w1 fun e w' => e = .returned (.int .i64 0) ∧ Below w1.heap.size w1 w') := hck
  clear hck hbl hb1
  have hr1 := num_range _ HCK.out 1 (by decide)
  simp only [OpR.num, List.getD_cons_zero, List.getD_cons_succ] at hr1
  have HI1 : Hid (∀ w', Below w1.heap.size w1 w' → Calls Tryd.prog 72 #[.int .i64 p] w' fun e w'' => e = .returned (.string ⟨(Lib.itoa p).toArray⟩) ∧ Below w'.heap.size w' w'') := fun w' hb => itoa_any p (by omega) (by omega) w' (HD1.out.below hb)
  have ho1 : (⟨(Lib.itoa p).toArray⟩ : ByteArray).size ≤ 22 := by
    have := Lib.itoa_length_le p (by omega) (by omega)
    show (Lib.itoa p).length ≤ 22
    omega
  have hr6 := text_range _ HCK.out 6
  simp only [OpR.text] at hr6
  have HI6 : Hid (∀ w', Below w1.heap.size w1 w' → Calls Tryd.prog 41 #[.string u] w' fun e w'' => e = .returned (.string ⟨(quoteL u.data.toList).toArray⟩) ∧ Below w'.heap.size w' w'') := fun w' hb => rquote_any u (by simp at hr6; omega) w'
  have ho6 : (⟨(quoteL u.data.toList).toArray⟩ : ByteArray).size ≤ 800 := by
    have h2 := quoteL_bd u.data.toList
    have h3 : u.data.toList.length = u.size := by simp
    simp at hr6
    show (quoteL u.data.toList).length ≤ 800
    omega
  have hr7 := text_range _ HCK.out 7
  simp only [OpR.text] at hr7
  have HI7 : Hid (∀ w', Below w1.heap.size w1 w' → Calls Tryd.prog 41 #[.string v] w' fun e w'' => e = .returned (.string ⟨(quoteL v.data.toList).toArray⟩) ∧ Below w'.heap.size w' w'') := fun w' hb => rquote_any v (by simp at hr7; omega) w'
  have ho7 : (⟨(quoteL v.data.toList).toArray⟩ : ByteArray).size ≤ 800 := by
    have h2 := quoteL_bd v.data.toList
    have h3 : v.data.toList.length = v.size := by simp
    simp at hr7
    show (quoteL v.data.toList).length ≤ 800
    omega
  obtain ⟨o1, eo1⟩ : ∃ o : ByteArray, ⟨(Lib.itoa p).toArray⟩ = o := ⟨_, rfl⟩
  rw [eo1] at HI1 ho1
  have HEO1 := Lib.hid eo1
  obtain ⟨o6, eo6⟩ : ∃ o : ByteArray, ⟨(quoteL u.data.toList).toArray⟩ = o := ⟨_, rfl⟩
  rw [eo6] at HI6 ho6
  have HEO6 := Lib.hid eo6
  obtain ⟨o7, eo7⟩ : ∃ o : ByteArray, ⟨(quoteL v.data.toList).toArray⟩ = o := ⟨_, rfl⟩
  rw [eo7] at HI7 ho7
  have HEO7 := Lib.hid eo7
  obtain ⟨T0, hT0⟩ : ∃ T : ByteArray, (⟨#[112, 117, 116]⟩ : ByteArray) ++ ⟨#[32]⟩ ++ o1 = T := ⟨_, rfl⟩
  have HT0 := Lib.hid hT0
  have hz0 : T0.size ≤ 40 := by rw [← hT0, ByteArray.size_append, ByteArray.size_append]; show 3 + 1 + o1.size ≤ 40; omega
  have ha0 : ¬ 9223372036854775807 < 4 + o1.size := by omega
  obtain ⟨s6, hs6⟩ : ∃ T : ByteArray, (⟨#[32]⟩ : ByteArray) ++ o6 = T := ⟨_, rfl⟩
  have hy6 : s6.size ≤ 801 := by rw [← hs6]; exact sp_size _ _ ho6
  obtain ⟨T1, hT1⟩ : ∃ T : ByteArray, T0 ++ s6 = T := ⟨_, rfl⟩
  have hz1 : T1.size ≤ 841 := by rw [← hT1, ByteArray.size_append]; omega
  have hb6 : ¬ 9223372036854775807 < 1 + o6.size := by omega
  have ha1 : ¬ 9223372036854775807 < T0.size + s6.size := by omega
  obtain ⟨s7, hs7⟩ : ∃ T : ByteArray, (⟨#[32]⟩ : ByteArray) ++ o7 = T := ⟨_, rfl⟩
  have hy7 : s7.size ≤ 801 := by rw [← hs7]; exact sp_size _ _ ho7
  obtain ⟨T2, hT2⟩ : ∃ T : ByteArray, T1 ++ s7 = T := ⟨_, rfl⟩
  have hz2 : T2.size ≤ 1642 := by rw [← hT2, ByteArray.size_append]; omega
  have hb7 : ¬ 9223372036854775807 < 1 + o7.size := by omega
  have ha2 : ¬ 9223372036854775807 < T1.size + s7.size := by omega
  have HFIN : Hid (T2 = S) := by
    rw [← HS.out, ← hT2, ← hT1, ← hT0, ← hs6, ← hs7, ← HEO1.out, ← HEO6.out, ← HEO7.out]
    apply ByteArray.ext
    simp [lineM, numP, textP, OpR.numT, OpR.textT, OpR.num, OpR.text, wordL]
  clear hr1 eo1 ho1 hr6 eo6 ho6 hr7 eo7 ho7 hz0 hz1 hz2 hy6 hy7 HD HD1 HCK
  go_enter Tryd.func43, Tryd.ntmps43
  go_wp2_with fail
  refine HK.out.mono ?_
  rintro e w2 ⟨rfl, hb⟩
  obtain ⟨w3, hw3⟩ : ∃ W, w2.alloc (.cells #[.string ⟨#[112, 117, 116]⟩, .string ⟨#[100, 101, 108]⟩, .string ⟨#[116, 105, 99, 107]⟩, .string ⟨#[100, 114, 97, 119]⟩, .string ⟨#[115, 101, 110, 100]⟩, .string ⟨#[100, 114, 111, 112]⟩, .string ⟨#[116, 119, 105, 99, 101]⟩, .string ⟨#[98, 101, 110, 100]⟩, .string ⟨#[102, 117, 115, 101]⟩, .string ⟨#[99, 114, 97, 115, 104]⟩, .string ⟨#[115, 116, 97, 114, 116]⟩, .string ⟨#[99, 111, 109, 112, 97, 99, 116]⟩, .string ⟨#[98, 117, 114, 121]⟩] 9) = W := ⟨_, rfl⟩
  have hb3 : Below w1.heap.size w1 w3 := by rw [← hw3]; exact hb.alloc hb.size _
  have hbl3 : w3.heap[w2.heap.size]? = some (.cells #[.string ⟨#[112, 117, 116]⟩, .string ⟨#[100, 101, 108]⟩, .string ⟨#[116, 105, 99, 107]⟩, .string ⟨#[100, 114, 97, 119]⟩, .string ⟨#[115, 101, 110, 100]⟩, .string ⟨#[100, 114, 111, 112]⟩, .string ⟨#[116, 119, 105, 99, 101]⟩, .string ⟨#[98, 101, 110, 100]⟩, .string ⟨#[102, 117, 115, 101]⟩, .string ⟨#[99, 114, 97, 115, 104]⟩, .string ⟨#[115, 116, 97, 114, 116]⟩, .string ⟨#[99, 111, 109, 112, 97, 99, 116]⟩, .string ⟨#[98, 117, 114, 121]⟩] 9 (0, 0)) := by rw [← hw3]; exact World.alloc_heap_new _ _
  have d : w3.cell? ⟨w2.heap.size, 0, none⟩ = some (.string ⟨#[112, 117, 116]⟩) := by simp [World.cell?, hbl3]
  have HB3 := Lib.hid hb3
  have HCELL3 : Hid (∀ w', Below w3.heap.size w3 w' → Below w3.heap.size w3 w' ∧ w'.cell? ⟨w.heap.size, 1, none⟩ = some (.int .i64 p) ∧ w'.cell? ⟨w2.heap.size, 0, none⟩ = some (.string ⟨#[112, 117, 116]⟩)) := fun w' hb => ⟨hb, cell_below hb (HCELL.out w3 hb3).2.1, cell_below hb d⟩
  have HP : Hid (∀ w', Below w3.heap.size w3 w' → Calls Tryd.prog 72 #[.int .i64 p] w' fun e w'' => e = .returned (.string o1) ∧ Below w3.heap.size w3 w'') := fun w' hb => (HI1.out w' (hb3.trans (hb.mono hb3.size))).mono fun e w'' h => ⟨h.1, hb.trans (h.2.mono hb.size)⟩
  obtain ⟨c0, c1, c2, c3, c4, c5, c6, c7⟩ := HCELL.out w3 hb3
  clear hb hb3 hbl3
  go_wp2_with fail
  go_cut [7] (fun t wc => t = .string T0 ∧ Hid (Below w3.heap.size w3 wc))
  case first =>
    go_region_held3 (fun w' => Below w3.heap.size w3 w' ∧ w'.cell? ⟨w.heap.size, 1, none⟩ = some (.int .i64 p) ∧ w'.cell? ⟨w2.heap.size, 0, none⟩ = some (.string ⟨#[112, 117, 116]⟩))
      (first | exact HCELL3.out _ (by assumption) | exact HCELL3.out _ (Below.refl _ _).drew | exact HCELL3.out _ (Below.refl _ _) | (go_split_ands; exact HCELL3.out _ (by assumption)))
      (first | (go_at_call 72; refine (HP.out _ ?_).mono ?_; (first | assumption | exact (Below.refl _ _).drew | exact Below.refl _ _ | (go_split_ands; assumption)); rintro e w' ⟨rfl, hq⟩))
    all_goals
      go_wp2_with fail
      go_meet
      exact ⟨by first | rfl | rw [HT0.out], Lib.hid (by assumption)⟩
  case rest =>
    obtain ⟨rfl, HBY⟩ := hcut
    obtain ⟨w4, rfl⟩ : ∃ w4 : World, w4 = wc := ⟨_, rfl⟩
    have HB4 : Hid (Below w1.heap.size w1 w4) := HB3.out.trans (HBY.out.mono HB3.out.size)
    clear c0 c1 c2 c3 c4 c5 c6 c7 d
    obtain ⟨c0, c1, c2, c3, c4, c5, c6, c7⟩ := HCELL.out w4 HB4.out
    go_wp2_with fail
    refine (HI6.out w4 HB4.out).mono ?_
    rintro e w5 ⟨rfl, hb⟩
    have HB5 := Lib.hid (HB4.out.trans (hb.mono HB4.out.size))
    clear hb c0 c1 c2 c3 c4 c5 c6 c7
    obtain ⟨c0, c1, c2, c3, c4, c5, c6, c7⟩ := HCELL.out w5 HB5.out
    go_wp2_with fail
    refine (HI7.out w5 HB5.out).mono ?_
    rintro e w6 ⟨rfl, hb⟩
    have HB6 := Lib.hid (HB5.out.trans (hb.mono HB5.out.size))
    clear hb c0 c1 c2 c3 c4 c5 c6 c7
    obtain ⟨c0, c1, c2, c3, c4, c5, c6, c7⟩ := HCELL.out w6 HB6.out
    go_wp2_with fail
    go_ret2
    exact ⟨by rw [← HFIN.out]; rfl, HB1.out.trans (HB6.out.mono HB1.out.size)⟩


set_option maxHeartbeats 8000000 in
set_option maxRecDepth 100000 in
theorem rline_1 (p t n a m : Int) (u v : ByteArray) (HCK : Hid (checkM ⟨1, p, t, n, a, m, u, v⟩ = 0)) (w : World) (HD : Hid (Door w)) (S : ByteArray) (HS : Hid (⟨(lineM ⟨1, p, t, n, a, m, u, v⟩).toArray⟩ = S)) :
    Calls Tryd.prog 43 #[.agg #[.int .i64 1, .int .i64 p, .int .i64 t, .int .i64 n, .int .i64 a, .int .i64 m, .string u, .string v]] w fun e w' => e = .returned (.tuple #[.string S, .int .i64 0]) ∧ Below w.heap.size w w' := by
  obtain ⟨w1, hw1⟩ : ∃ W, w.alloc (.cells #[.int .i64 1, .int .i64 p, .int .i64 t, .int .i64 n, .int .i64 a, .int .i64 m, .string u, .string v] 30) = W := ⟨_, rfl⟩
  have hb1 : Below w.heap.size w w1 := by rw [← hw1]; exact (Below.refl _ _).alloc (Nat.le_refl _) _
  have hbl : w1.heap[w.heap.size]? = some (.cells #[.int .i64 1, .int .i64 p, .int .i64 t, .int .i64 n, .int .i64 a, .int .i64 m, .string u, .string v] 30 (0, 0)) := by rw [← hw1]; exact World.alloc_heap_new _ _
  have c0 : w1.cell? ⟨w.heap.size, 0, none⟩ = some (.int .i64 1) := by simp [World.cell?, hbl]
  have c1 : w1.cell? ⟨w.heap.size, 1, none⟩ = some (.int .i64 p) := by simp [World.cell?, hbl]
  have c2 : w1.cell? ⟨w.heap.size, 2, none⟩ = some (.int .i64 t) := by simp [World.cell?, hbl]
  have c3 : w1.cell? ⟨w.heap.size, 3, none⟩ = some (.int .i64 n) := by simp [World.cell?, hbl]
  have c4 : w1.cell? ⟨w.heap.size, 4, none⟩ = some (.int .i64 a) := by simp [World.cell?, hbl]
  have c5 : w1.cell? ⟨w.heap.size, 5, none⟩ = some (.int .i64 m) := by simp [World.cell?, hbl]
  have c6 : w1.cell? ⟨w.heap.size, 6, none⟩ = some (.string u) := by simp [World.cell?, hbl]
  have c7 : w1.cell? ⟨w.heap.size, 7, none⟩ = some (.string v) := by simp [World.cell?, hbl]
  have HCELL : Hid (∀ w', Below w1.heap.size w1 w' → w'.cell? ⟨w.heap.size, 0, none⟩ = some (.int .i64 1) ∧ w'.cell? ⟨w.heap.size, 1, none⟩ = some (.int .i64 p) ∧ w'.cell? ⟨w.heap.size, 2, none⟩ = some (.int .i64 t) ∧ w'.cell? ⟨w.heap.size, 3, none⟩ = some (.int .i64 n) ∧ w'.cell? ⟨w.heap.size, 4, none⟩ = some (.int .i64 a) ∧ w'.cell? ⟨w.heap.size, 5, none⟩ = some (.int .i64 m) ∧ w'.cell? ⟨w.heap.size, 6, none⟩ = some (.string u) ∧ w'.cell? ⟨w.heap.size, 7, none⟩ = some (.string v)) := fun w' hb => ⟨cell_below hb c0, cell_below hb c1, cell_below hb c2, cell_below hb c3, cell_below hb c4, cell_below hb c5, cell_below hb c6, cell_below hb c7⟩
  have HB1 := Lib.hid hb1
  have HD1 := Lib.hid (HD.out.below hb1)
  have hck := rcheck_any ⟨1, p, t, n, a, m, u, v⟩ w1
  rw [rcheck_eq, HCK.out] at hck
  have HK : Hid (Calls Tryd.prog 59 #[.agg #[.int .i64 1, .int .i64 p, .int .i64 t, .int .i64 n, .int .i64 a, .int .i64 m, .string u, .string v]] w1 fun e w' => e = .returned (.int .i64 0) ∧ Below w1.heap.size w1 w') := hck
  clear hck hbl hb1
  have hr1 := num_range _ HCK.out 1 (by decide)
  simp only [OpR.num, List.getD_cons_zero, List.getD_cons_succ] at hr1
  have HI1 : Hid (∀ w', Below w1.heap.size w1 w' → Calls Tryd.prog 72 #[.int .i64 p] w' fun e w'' => e = .returned (.string ⟨(Lib.itoa p).toArray⟩) ∧ Below w'.heap.size w' w'') := fun w' hb => itoa_any p (by omega) (by omega) w' (HD1.out.below hb)
  have ho1 : (⟨(Lib.itoa p).toArray⟩ : ByteArray).size ≤ 22 := by
    have := Lib.itoa_length_le p (by omega) (by omega)
    show (Lib.itoa p).length ≤ 22
    omega
  have hr6 := text_range _ HCK.out 6
  simp only [OpR.text] at hr6
  have HI6 : Hid (∀ w', Below w1.heap.size w1 w' → Calls Tryd.prog 41 #[.string u] w' fun e w'' => e = .returned (.string ⟨(quoteL u.data.toList).toArray⟩) ∧ Below w'.heap.size w' w'') := fun w' hb => rquote_any u (by simp at hr6; omega) w'
  have ho6 : (⟨(quoteL u.data.toList).toArray⟩ : ByteArray).size ≤ 800 := by
    have h2 := quoteL_bd u.data.toList
    have h3 : u.data.toList.length = u.size := by simp
    simp at hr6
    show (quoteL u.data.toList).length ≤ 800
    omega
  obtain ⟨o1, eo1⟩ : ∃ o : ByteArray, ⟨(Lib.itoa p).toArray⟩ = o := ⟨_, rfl⟩
  rw [eo1] at HI1 ho1
  have HEO1 := Lib.hid eo1
  obtain ⟨o6, eo6⟩ : ∃ o : ByteArray, ⟨(quoteL u.data.toList).toArray⟩ = o := ⟨_, rfl⟩
  rw [eo6] at HI6 ho6
  have HEO6 := Lib.hid eo6
  obtain ⟨T0, hT0⟩ : ∃ T : ByteArray, (⟨#[100, 101, 108]⟩ : ByteArray) ++ ⟨#[32]⟩ ++ o1 = T := ⟨_, rfl⟩
  have HT0 := Lib.hid hT0
  have hz0 : T0.size ≤ 40 := by rw [← hT0, ByteArray.size_append, ByteArray.size_append]; show 3 + 1 + o1.size ≤ 40; omega
  have ha0 : ¬ 9223372036854775807 < 4 + o1.size := by omega
  obtain ⟨s6, hs6⟩ : ∃ T : ByteArray, (⟨#[32]⟩ : ByteArray) ++ o6 = T := ⟨_, rfl⟩
  have hy6 : s6.size ≤ 801 := by rw [← hs6]; exact sp_size _ _ ho6
  obtain ⟨T1, hT1⟩ : ∃ T : ByteArray, T0 ++ s6 = T := ⟨_, rfl⟩
  have hz1 : T1.size ≤ 841 := by rw [← hT1, ByteArray.size_append]; omega
  have hb6 : ¬ 9223372036854775807 < 1 + o6.size := by omega
  have ha1 : ¬ 9223372036854775807 < T0.size + s6.size := by omega
  have HFIN : Hid (T1 = S) := by
    rw [← HS.out, ← hT1, ← hT0, ← hs6, ← HEO1.out, ← HEO6.out]
    apply ByteArray.ext
    simp [lineM, numP, textP, OpR.numT, OpR.textT, OpR.num, OpR.text, wordL]
  clear hr1 eo1 ho1 hr6 eo6 ho6 hz0 hz1 hy6 HD HD1 HCK
  go_enter Tryd.func43, Tryd.ntmps43
  go_wp2_with fail
  refine HK.out.mono ?_
  rintro e w2 ⟨rfl, hb⟩
  obtain ⟨w3, hw3⟩ : ∃ W, w2.alloc (.cells #[.string ⟨#[112, 117, 116]⟩, .string ⟨#[100, 101, 108]⟩, .string ⟨#[116, 105, 99, 107]⟩, .string ⟨#[100, 114, 97, 119]⟩, .string ⟨#[115, 101, 110, 100]⟩, .string ⟨#[100, 114, 111, 112]⟩, .string ⟨#[116, 119, 105, 99, 101]⟩, .string ⟨#[98, 101, 110, 100]⟩, .string ⟨#[102, 117, 115, 101]⟩, .string ⟨#[99, 114, 97, 115, 104]⟩, .string ⟨#[115, 116, 97, 114, 116]⟩, .string ⟨#[99, 111, 109, 112, 97, 99, 116]⟩, .string ⟨#[98, 117, 114, 121]⟩] 9) = W := ⟨_, rfl⟩
  have hb3 : Below w1.heap.size w1 w3 := by rw [← hw3]; exact hb.alloc hb.size _
  have hbl3 : w3.heap[w2.heap.size]? = some (.cells #[.string ⟨#[112, 117, 116]⟩, .string ⟨#[100, 101, 108]⟩, .string ⟨#[116, 105, 99, 107]⟩, .string ⟨#[100, 114, 97, 119]⟩, .string ⟨#[115, 101, 110, 100]⟩, .string ⟨#[100, 114, 111, 112]⟩, .string ⟨#[116, 119, 105, 99, 101]⟩, .string ⟨#[98, 101, 110, 100]⟩, .string ⟨#[102, 117, 115, 101]⟩, .string ⟨#[99, 114, 97, 115, 104]⟩, .string ⟨#[115, 116, 97, 114, 116]⟩, .string ⟨#[99, 111, 109, 112, 97, 99, 116]⟩, .string ⟨#[98, 117, 114, 121]⟩] 9 (0, 0)) := by rw [← hw3]; exact World.alloc_heap_new _ _
  have d : w3.cell? ⟨w2.heap.size, 1, none⟩ = some (.string ⟨#[100, 101, 108]⟩) := by simp [World.cell?, hbl3]
  have HB3 := Lib.hid hb3
  have HCELL3 : Hid (∀ w', Below w3.heap.size w3 w' → Below w3.heap.size w3 w' ∧ w'.cell? ⟨w.heap.size, 1, none⟩ = some (.int .i64 p) ∧ w'.cell? ⟨w2.heap.size, 1, none⟩ = some (.string ⟨#[100, 101, 108]⟩)) := fun w' hb => ⟨hb, cell_below hb (HCELL.out w3 hb3).2.1, cell_below hb d⟩
  have HP : Hid (∀ w', Below w3.heap.size w3 w' → Calls Tryd.prog 72 #[.int .i64 p] w' fun e w'' => e = .returned (.string o1) ∧ Below w3.heap.size w3 w'') := fun w' hb => (HI1.out w' (hb3.trans (hb.mono hb3.size))).mono fun e w'' h => ⟨h.1, hb.trans (h.2.mono hb.size)⟩
  obtain ⟨c0, c1, c2, c3, c4, c5, c6, c7⟩ := HCELL.out w3 hb3
  clear hb hb3 hbl3
  go_wp2_with fail
  go_cut [7] (fun t wc => t = .string T0 ∧ Hid (Below w3.heap.size w3 wc))
  case first =>
    go_region_held3 (fun w' => Below w3.heap.size w3 w' ∧ w'.cell? ⟨w.heap.size, 1, none⟩ = some (.int .i64 p) ∧ w'.cell? ⟨w2.heap.size, 1, none⟩ = some (.string ⟨#[100, 101, 108]⟩))
      (first | exact HCELL3.out _ (by assumption) | exact HCELL3.out _ (Below.refl _ _).drew | exact HCELL3.out _ (Below.refl _ _) | (go_split_ands; exact HCELL3.out _ (by assumption)))
      (first | (go_at_call 72; refine (HP.out _ ?_).mono ?_; (first | assumption | exact (Below.refl _ _).drew | exact Below.refl _ _ | (go_split_ands; assumption)); rintro e w' ⟨rfl, hq⟩))
    all_goals
      go_wp2_with fail
      go_meet
      exact ⟨by first | rfl | rw [HT0.out], Lib.hid (by assumption)⟩
  case rest =>
    obtain ⟨rfl, HBY⟩ := hcut
    obtain ⟨w4, rfl⟩ : ∃ w4 : World, w4 = wc := ⟨_, rfl⟩
    have HB4 : Hid (Below w1.heap.size w1 w4) := HB3.out.trans (HBY.out.mono HB3.out.size)
    clear c0 c1 c2 c3 c4 c5 c6 c7 d
    obtain ⟨c0, c1, c2, c3, c4, c5, c6, c7⟩ := HCELL.out w4 HB4.out
    go_wp2_with fail
    refine (HI6.out w4 HB4.out).mono ?_
    rintro e w5 ⟨rfl, hb⟩
    have HB5 := Lib.hid (HB4.out.trans (hb.mono HB4.out.size))
    clear hb c0 c1 c2 c3 c4 c5 c6 c7
    obtain ⟨c0, c1, c2, c3, c4, c5, c6, c7⟩ := HCELL.out w5 HB5.out
    go_wp2_with fail
    go_ret2
    exact ⟨by rw [← HFIN.out]; rfl, HB1.out.trans (HB5.out.mono HB1.out.size)⟩


set_option maxHeartbeats 8000000 in
set_option maxRecDepth 100000 in
theorem rline_2 (p t n a m : Int) (u v : ByteArray) (HCK : Hid (checkM ⟨2, p, t, n, a, m, u, v⟩ = 0)) (w : World) (HD : Hid (Door w)) (S : ByteArray) (HS : Hid (⟨(lineM ⟨2, p, t, n, a, m, u, v⟩).toArray⟩ = S)) :
    Calls Tryd.prog 43 #[.agg #[.int .i64 2, .int .i64 p, .int .i64 t, .int .i64 n, .int .i64 a, .int .i64 m, .string u, .string v]] w fun e w' => e = .returned (.tuple #[.string S, .int .i64 0]) ∧ Below w.heap.size w w' := by
  obtain ⟨w1, hw1⟩ : ∃ W, w.alloc (.cells #[.int .i64 2, .int .i64 p, .int .i64 t, .int .i64 n, .int .i64 a, .int .i64 m, .string u, .string v] 30) = W := ⟨_, rfl⟩
  have hb1 : Below w.heap.size w w1 := by rw [← hw1]; exact (Below.refl _ _).alloc (Nat.le_refl _) _
  have hbl : w1.heap[w.heap.size]? = some (.cells #[.int .i64 2, .int .i64 p, .int .i64 t, .int .i64 n, .int .i64 a, .int .i64 m, .string u, .string v] 30 (0, 0)) := by rw [← hw1]; exact World.alloc_heap_new _ _
  have c0 : w1.cell? ⟨w.heap.size, 0, none⟩ = some (.int .i64 2) := by simp [World.cell?, hbl]
  have c1 : w1.cell? ⟨w.heap.size, 1, none⟩ = some (.int .i64 p) := by simp [World.cell?, hbl]
  have c2 : w1.cell? ⟨w.heap.size, 2, none⟩ = some (.int .i64 t) := by simp [World.cell?, hbl]
  have c3 : w1.cell? ⟨w.heap.size, 3, none⟩ = some (.int .i64 n) := by simp [World.cell?, hbl]
  have c4 : w1.cell? ⟨w.heap.size, 4, none⟩ = some (.int .i64 a) := by simp [World.cell?, hbl]
  have c5 : w1.cell? ⟨w.heap.size, 5, none⟩ = some (.int .i64 m) := by simp [World.cell?, hbl]
  have c6 : w1.cell? ⟨w.heap.size, 6, none⟩ = some (.string u) := by simp [World.cell?, hbl]
  have c7 : w1.cell? ⟨w.heap.size, 7, none⟩ = some (.string v) := by simp [World.cell?, hbl]
  have HCELL : Hid (∀ w', Below w1.heap.size w1 w' → w'.cell? ⟨w.heap.size, 0, none⟩ = some (.int .i64 2) ∧ w'.cell? ⟨w.heap.size, 1, none⟩ = some (.int .i64 p) ∧ w'.cell? ⟨w.heap.size, 2, none⟩ = some (.int .i64 t) ∧ w'.cell? ⟨w.heap.size, 3, none⟩ = some (.int .i64 n) ∧ w'.cell? ⟨w.heap.size, 4, none⟩ = some (.int .i64 a) ∧ w'.cell? ⟨w.heap.size, 5, none⟩ = some (.int .i64 m) ∧ w'.cell? ⟨w.heap.size, 6, none⟩ = some (.string u) ∧ w'.cell? ⟨w.heap.size, 7, none⟩ = some (.string v)) := fun w' hb => ⟨cell_below hb c0, cell_below hb c1, cell_below hb c2, cell_below hb c3, cell_below hb c4, cell_below hb c5, cell_below hb c6, cell_below hb c7⟩
  have HB1 := Lib.hid hb1
  have HD1 := Lib.hid (HD.out.below hb1)
  have hck := rcheck_any ⟨2, p, t, n, a, m, u, v⟩ w1
  rw [rcheck_eq, HCK.out] at hck
  have HK : Hid (Calls Tryd.prog 59 #[.agg #[.int .i64 2, .int .i64 p, .int .i64 t, .int .i64 n, .int .i64 a, .int .i64 m, .string u, .string v]] w1 fun e w' => e = .returned (.int .i64 0) ∧ Below w1.heap.size w1 w') := hck
  clear hck hbl hb1
  have hr1 := num_range _ HCK.out 1 (by decide)
  simp only [OpR.num, List.getD_cons_zero, List.getD_cons_succ] at hr1
  have HI1 : Hid (∀ w', Below w1.heap.size w1 w' → Calls Tryd.prog 72 #[.int .i64 p] w' fun e w'' => e = .returned (.string ⟨(Lib.itoa p).toArray⟩) ∧ Below w'.heap.size w' w'') := fun w' hb => itoa_any p (by omega) (by omega) w' (HD1.out.below hb)
  have ho1 : (⟨(Lib.itoa p).toArray⟩ : ByteArray).size ≤ 22 := by
    have := Lib.itoa_length_le p (by omega) (by omega)
    show (Lib.itoa p).length ≤ 22
    omega
  have hr3 := num_range _ HCK.out 3 (by decide)
  simp only [OpR.num, List.getD_cons_zero, List.getD_cons_succ] at hr3
  have HI3 : Hid (∀ w', Below w1.heap.size w1 w' → Calls Tryd.prog 72 #[.int .i64 n] w' fun e w'' => e = .returned (.string ⟨(Lib.itoa n).toArray⟩) ∧ Below w'.heap.size w' w'') := fun w' hb => itoa_any n (by omega) (by omega) w' (HD1.out.below hb)
  have ho3 : (⟨(Lib.itoa n).toArray⟩ : ByteArray).size ≤ 22 := by
    have := Lib.itoa_length_le n (by omega) (by omega)
    show (Lib.itoa n).length ≤ 22
    omega
  obtain ⟨o1, eo1⟩ : ∃ o : ByteArray, ⟨(Lib.itoa p).toArray⟩ = o := ⟨_, rfl⟩
  rw [eo1] at HI1 ho1
  have HEO1 := Lib.hid eo1
  obtain ⟨o3, eo3⟩ : ∃ o : ByteArray, ⟨(Lib.itoa n).toArray⟩ = o := ⟨_, rfl⟩
  rw [eo3] at HI3 ho3
  have HEO3 := Lib.hid eo3
  obtain ⟨T0, hT0⟩ : ∃ T : ByteArray, (⟨#[116, 105, 99, 107]⟩ : ByteArray) ++ ⟨#[32]⟩ ++ o1 = T := ⟨_, rfl⟩
  have HT0 := Lib.hid hT0
  have hz0 : T0.size ≤ 40 := by rw [← hT0, ByteArray.size_append, ByteArray.size_append]; show 4 + 1 + o1.size ≤ 40; omega
  have ha0 : ¬ 9223372036854775807 < 5 + o1.size := by omega
  obtain ⟨s3, hs3⟩ : ∃ T : ByteArray, (⟨#[32]⟩ : ByteArray) ++ o3 = T := ⟨_, rfl⟩
  have hy3 : s3.size ≤ 23 := by rw [← hs3]; exact sp_size _ _ ho3
  obtain ⟨T1, hT1⟩ : ∃ T : ByteArray, T0 ++ s3 = T := ⟨_, rfl⟩
  have hz1 : T1.size ≤ 63 := by rw [← hT1, ByteArray.size_append]; omega
  have hb3 : ¬ 9223372036854775807 < 1 + o3.size := by omega
  have ha1 : ¬ 9223372036854775807 < T0.size + s3.size := by omega
  have HFIN : Hid (T1 = S) := by
    rw [← HS.out, ← hT1, ← hT0, ← hs3, ← HEO1.out, ← HEO3.out]
    apply ByteArray.ext
    simp [lineM, numP, textP, OpR.numT, OpR.textT, OpR.num, OpR.text, wordL]
  clear hr1 eo1 ho1 hr3 eo3 ho3 hz0 hz1 hy3 HD HD1 HCK
  go_enter Tryd.func43, Tryd.ntmps43
  go_wp2_with fail
  refine HK.out.mono ?_
  rintro e w2 ⟨rfl, hb⟩
  obtain ⟨w3, hw3⟩ : ∃ W, w2.alloc (.cells #[.string ⟨#[112, 117, 116]⟩, .string ⟨#[100, 101, 108]⟩, .string ⟨#[116, 105, 99, 107]⟩, .string ⟨#[100, 114, 97, 119]⟩, .string ⟨#[115, 101, 110, 100]⟩, .string ⟨#[100, 114, 111, 112]⟩, .string ⟨#[116, 119, 105, 99, 101]⟩, .string ⟨#[98, 101, 110, 100]⟩, .string ⟨#[102, 117, 115, 101]⟩, .string ⟨#[99, 114, 97, 115, 104]⟩, .string ⟨#[115, 116, 97, 114, 116]⟩, .string ⟨#[99, 111, 109, 112, 97, 99, 116]⟩, .string ⟨#[98, 117, 114, 121]⟩] 9) = W := ⟨_, rfl⟩
  have hb3 : Below w1.heap.size w1 w3 := by rw [← hw3]; exact hb.alloc hb.size _
  have hbl3 : w3.heap[w2.heap.size]? = some (.cells #[.string ⟨#[112, 117, 116]⟩, .string ⟨#[100, 101, 108]⟩, .string ⟨#[116, 105, 99, 107]⟩, .string ⟨#[100, 114, 97, 119]⟩, .string ⟨#[115, 101, 110, 100]⟩, .string ⟨#[100, 114, 111, 112]⟩, .string ⟨#[116, 119, 105, 99, 101]⟩, .string ⟨#[98, 101, 110, 100]⟩, .string ⟨#[102, 117, 115, 101]⟩, .string ⟨#[99, 114, 97, 115, 104]⟩, .string ⟨#[115, 116, 97, 114, 116]⟩, .string ⟨#[99, 111, 109, 112, 97, 99, 116]⟩, .string ⟨#[98, 117, 114, 121]⟩] 9 (0, 0)) := by rw [← hw3]; exact World.alloc_heap_new _ _
  have d : w3.cell? ⟨w2.heap.size, 2, none⟩ = some (.string ⟨#[116, 105, 99, 107]⟩) := by simp [World.cell?, hbl3]
  have HB3 := Lib.hid hb3
  have HCELL3 : Hid (∀ w', Below w3.heap.size w3 w' → Below w3.heap.size w3 w' ∧ w'.cell? ⟨w.heap.size, 1, none⟩ = some (.int .i64 p) ∧ w'.cell? ⟨w2.heap.size, 2, none⟩ = some (.string ⟨#[116, 105, 99, 107]⟩)) := fun w' hb => ⟨hb, cell_below hb (HCELL.out w3 hb3).2.1, cell_below hb d⟩
  have HP : Hid (∀ w', Below w3.heap.size w3 w' → Calls Tryd.prog 72 #[.int .i64 p] w' fun e w'' => e = .returned (.string o1) ∧ Below w3.heap.size w3 w'') := fun w' hb => (HI1.out w' (hb3.trans (hb.mono hb3.size))).mono fun e w'' h => ⟨h.1, hb.trans (h.2.mono hb.size)⟩
  obtain ⟨c0, c1, c2, c3, c4, c5, c6, c7⟩ := HCELL.out w3 hb3
  clear hb hb3 hbl3
  go_wp2_with fail
  go_cut [7] (fun t wc => t = .string T0 ∧ Hid (Below w3.heap.size w3 wc))
  case first =>
    go_region_held3 (fun w' => Below w3.heap.size w3 w' ∧ w'.cell? ⟨w.heap.size, 1, none⟩ = some (.int .i64 p) ∧ w'.cell? ⟨w2.heap.size, 2, none⟩ = some (.string ⟨#[116, 105, 99, 107]⟩))
      (first | exact HCELL3.out _ (by assumption) | exact HCELL3.out _ (Below.refl _ _).drew | exact HCELL3.out _ (Below.refl _ _) | (go_split_ands; exact HCELL3.out _ (by assumption)))
      (first | (go_at_call 72; refine (HP.out _ ?_).mono ?_; (first | assumption | exact (Below.refl _ _).drew | exact Below.refl _ _ | (go_split_ands; assumption)); rintro e w' ⟨rfl, hq⟩))
    all_goals
      go_wp2_with fail
      go_meet
      exact ⟨by first | rfl | rw [HT0.out], Lib.hid (by assumption)⟩
  case rest =>
    obtain ⟨rfl, HBY⟩ := hcut
    obtain ⟨w4, rfl⟩ : ∃ w4 : World, w4 = wc := ⟨_, rfl⟩
    have HB4 : Hid (Below w1.heap.size w1 w4) := HB3.out.trans (HBY.out.mono HB3.out.size)
    clear c0 c1 c2 c3 c4 c5 c6 c7 d
    obtain ⟨c0, c1, c2, c3, c4, c5, c6, c7⟩ := HCELL.out w4 HB4.out
    go_wp2_with fail
    refine (HI3.out w4 HB4.out).mono ?_
    rintro e w5 ⟨rfl, hb⟩
    have HB5 := Lib.hid (HB4.out.trans (hb.mono HB4.out.size))
    clear hb c0 c1 c2 c3 c4 c5 c6 c7
    obtain ⟨c0, c1, c2, c3, c4, c5, c6, c7⟩ := HCELL.out w5 HB5.out
    go_wp2_with fail
    go_ret2
    exact ⟨by rw [← HFIN.out]; rfl, HB1.out.trans (HB5.out.mono HB1.out.size)⟩


set_option maxHeartbeats 8000000 in
set_option maxRecDepth 100000 in
theorem rline_3 (p t n a m : Int) (u v : ByteArray) (HCK : Hid (checkM ⟨3, p, t, n, a, m, u, v⟩ = 0)) (w : World) (HD : Hid (Door w)) (S : ByteArray) (HS : Hid (⟨(lineM ⟨3, p, t, n, a, m, u, v⟩).toArray⟩ = S)) :
    Calls Tryd.prog 43 #[.agg #[.int .i64 3, .int .i64 p, .int .i64 t, .int .i64 n, .int .i64 a, .int .i64 m, .string u, .string v]] w fun e w' => e = .returned (.tuple #[.string S, .int .i64 0]) ∧ Below w.heap.size w w' := by
  obtain ⟨w1, hw1⟩ : ∃ W, w.alloc (.cells #[.int .i64 3, .int .i64 p, .int .i64 t, .int .i64 n, .int .i64 a, .int .i64 m, .string u, .string v] 30) = W := ⟨_, rfl⟩
  have hb1 : Below w.heap.size w w1 := by rw [← hw1]; exact (Below.refl _ _).alloc (Nat.le_refl _) _
  have hbl : w1.heap[w.heap.size]? = some (.cells #[.int .i64 3, .int .i64 p, .int .i64 t, .int .i64 n, .int .i64 a, .int .i64 m, .string u, .string v] 30 (0, 0)) := by rw [← hw1]; exact World.alloc_heap_new _ _
  have c0 : w1.cell? ⟨w.heap.size, 0, none⟩ = some (.int .i64 3) := by simp [World.cell?, hbl]
  have c1 : w1.cell? ⟨w.heap.size, 1, none⟩ = some (.int .i64 p) := by simp [World.cell?, hbl]
  have c2 : w1.cell? ⟨w.heap.size, 2, none⟩ = some (.int .i64 t) := by simp [World.cell?, hbl]
  have c3 : w1.cell? ⟨w.heap.size, 3, none⟩ = some (.int .i64 n) := by simp [World.cell?, hbl]
  have c4 : w1.cell? ⟨w.heap.size, 4, none⟩ = some (.int .i64 a) := by simp [World.cell?, hbl]
  have c5 : w1.cell? ⟨w.heap.size, 5, none⟩ = some (.int .i64 m) := by simp [World.cell?, hbl]
  have c6 : w1.cell? ⟨w.heap.size, 6, none⟩ = some (.string u) := by simp [World.cell?, hbl]
  have c7 : w1.cell? ⟨w.heap.size, 7, none⟩ = some (.string v) := by simp [World.cell?, hbl]
  have HCELL : Hid (∀ w', Below w1.heap.size w1 w' → w'.cell? ⟨w.heap.size, 0, none⟩ = some (.int .i64 3) ∧ w'.cell? ⟨w.heap.size, 1, none⟩ = some (.int .i64 p) ∧ w'.cell? ⟨w.heap.size, 2, none⟩ = some (.int .i64 t) ∧ w'.cell? ⟨w.heap.size, 3, none⟩ = some (.int .i64 n) ∧ w'.cell? ⟨w.heap.size, 4, none⟩ = some (.int .i64 a) ∧ w'.cell? ⟨w.heap.size, 5, none⟩ = some (.int .i64 m) ∧ w'.cell? ⟨w.heap.size, 6, none⟩ = some (.string u) ∧ w'.cell? ⟨w.heap.size, 7, none⟩ = some (.string v)) := fun w' hb => ⟨cell_below hb c0, cell_below hb c1, cell_below hb c2, cell_below hb c3, cell_below hb c4, cell_below hb c5, cell_below hb c6, cell_below hb c7⟩
  have HB1 := Lib.hid hb1
  have HD1 := Lib.hid (HD.out.below hb1)
  have hck := rcheck_any ⟨3, p, t, n, a, m, u, v⟩ w1
  rw [rcheck_eq, HCK.out] at hck
  have HK : Hid (Calls Tryd.prog 59 #[.agg #[.int .i64 3, .int .i64 p, .int .i64 t, .int .i64 n, .int .i64 a, .int .i64 m, .string u, .string v]] w1 fun e w' => e = .returned (.int .i64 0) ∧ Below w1.heap.size w1 w') := hck
  clear hck hbl hb1
  have hr1 := num_range _ HCK.out 1 (by decide)
  simp only [OpR.num, List.getD_cons_zero, List.getD_cons_succ] at hr1
  have HI1 : Hid (∀ w', Below w1.heap.size w1 w' → Calls Tryd.prog 72 #[.int .i64 p] w' fun e w'' => e = .returned (.string ⟨(Lib.itoa p).toArray⟩) ∧ Below w'.heap.size w' w'') := fun w' hb => itoa_any p (by omega) (by omega) w' (HD1.out.below hb)
  have ho1 : (⟨(Lib.itoa p).toArray⟩ : ByteArray).size ≤ 22 := by
    have := Lib.itoa_length_le p (by omega) (by omega)
    show (Lib.itoa p).length ≤ 22
    omega
  have hr3 := num_range _ HCK.out 3 (by decide)
  simp only [OpR.num, List.getD_cons_zero, List.getD_cons_succ] at hr3
  have HI3 : Hid (∀ w', Below w1.heap.size w1 w' → Calls Tryd.prog 72 #[.int .i64 n] w' fun e w'' => e = .returned (.string ⟨(Lib.itoa n).toArray⟩) ∧ Below w'.heap.size w' w'') := fun w' hb => itoa_any n (by omega) (by omega) w' (HD1.out.below hb)
  have ho3 : (⟨(Lib.itoa n).toArray⟩ : ByteArray).size ≤ 22 := by
    have := Lib.itoa_length_le n (by omega) (by omega)
    show (Lib.itoa n).length ≤ 22
    omega
  obtain ⟨o1, eo1⟩ : ∃ o : ByteArray, ⟨(Lib.itoa p).toArray⟩ = o := ⟨_, rfl⟩
  rw [eo1] at HI1 ho1
  have HEO1 := Lib.hid eo1
  obtain ⟨o3, eo3⟩ : ∃ o : ByteArray, ⟨(Lib.itoa n).toArray⟩ = o := ⟨_, rfl⟩
  rw [eo3] at HI3 ho3
  have HEO3 := Lib.hid eo3
  obtain ⟨T0, hT0⟩ : ∃ T : ByteArray, (⟨#[100, 114, 97, 119]⟩ : ByteArray) ++ ⟨#[32]⟩ ++ o1 = T := ⟨_, rfl⟩
  have HT0 := Lib.hid hT0
  have hz0 : T0.size ≤ 40 := by rw [← hT0, ByteArray.size_append, ByteArray.size_append]; show 4 + 1 + o1.size ≤ 40; omega
  have ha0 : ¬ 9223372036854775807 < 5 + o1.size := by omega
  obtain ⟨s3, hs3⟩ : ∃ T : ByteArray, (⟨#[32]⟩ : ByteArray) ++ o3 = T := ⟨_, rfl⟩
  have hy3 : s3.size ≤ 23 := by rw [← hs3]; exact sp_size _ _ ho3
  obtain ⟨T1, hT1⟩ : ∃ T : ByteArray, T0 ++ s3 = T := ⟨_, rfl⟩
  have hz1 : T1.size ≤ 63 := by rw [← hT1, ByteArray.size_append]; omega
  have hb3 : ¬ 9223372036854775807 < 1 + o3.size := by omega
  have ha1 : ¬ 9223372036854775807 < T0.size + s3.size := by omega
  have HFIN : Hid (T1 = S) := by
    rw [← HS.out, ← hT1, ← hT0, ← hs3, ← HEO1.out, ← HEO3.out]
    apply ByteArray.ext
    simp [lineM, numP, textP, OpR.numT, OpR.textT, OpR.num, OpR.text, wordL]
  clear hr1 eo1 ho1 hr3 eo3 ho3 hz0 hz1 hy3 HD HD1 HCK
  go_enter Tryd.func43, Tryd.ntmps43
  go_wp2_with fail
  refine HK.out.mono ?_
  rintro e w2 ⟨rfl, hb⟩
  obtain ⟨w3, hw3⟩ : ∃ W, w2.alloc (.cells #[.string ⟨#[112, 117, 116]⟩, .string ⟨#[100, 101, 108]⟩, .string ⟨#[116, 105, 99, 107]⟩, .string ⟨#[100, 114, 97, 119]⟩, .string ⟨#[115, 101, 110, 100]⟩, .string ⟨#[100, 114, 111, 112]⟩, .string ⟨#[116, 119, 105, 99, 101]⟩, .string ⟨#[98, 101, 110, 100]⟩, .string ⟨#[102, 117, 115, 101]⟩, .string ⟨#[99, 114, 97, 115, 104]⟩, .string ⟨#[115, 116, 97, 114, 116]⟩, .string ⟨#[99, 111, 109, 112, 97, 99, 116]⟩, .string ⟨#[98, 117, 114, 121]⟩] 9) = W := ⟨_, rfl⟩
  have hb3 : Below w1.heap.size w1 w3 := by rw [← hw3]; exact hb.alloc hb.size _
  have hbl3 : w3.heap[w2.heap.size]? = some (.cells #[.string ⟨#[112, 117, 116]⟩, .string ⟨#[100, 101, 108]⟩, .string ⟨#[116, 105, 99, 107]⟩, .string ⟨#[100, 114, 97, 119]⟩, .string ⟨#[115, 101, 110, 100]⟩, .string ⟨#[100, 114, 111, 112]⟩, .string ⟨#[116, 119, 105, 99, 101]⟩, .string ⟨#[98, 101, 110, 100]⟩, .string ⟨#[102, 117, 115, 101]⟩, .string ⟨#[99, 114, 97, 115, 104]⟩, .string ⟨#[115, 116, 97, 114, 116]⟩, .string ⟨#[99, 111, 109, 112, 97, 99, 116]⟩, .string ⟨#[98, 117, 114, 121]⟩] 9 (0, 0)) := by rw [← hw3]; exact World.alloc_heap_new _ _
  have d : w3.cell? ⟨w2.heap.size, 3, none⟩ = some (.string ⟨#[100, 114, 97, 119]⟩) := by simp [World.cell?, hbl3]
  have HB3 := Lib.hid hb3
  have HCELL3 : Hid (∀ w', Below w3.heap.size w3 w' → Below w3.heap.size w3 w' ∧ w'.cell? ⟨w.heap.size, 1, none⟩ = some (.int .i64 p) ∧ w'.cell? ⟨w2.heap.size, 3, none⟩ = some (.string ⟨#[100, 114, 97, 119]⟩)) := fun w' hb => ⟨hb, cell_below hb (HCELL.out w3 hb3).2.1, cell_below hb d⟩
  have HP : Hid (∀ w', Below w3.heap.size w3 w' → Calls Tryd.prog 72 #[.int .i64 p] w' fun e w'' => e = .returned (.string o1) ∧ Below w3.heap.size w3 w'') := fun w' hb => (HI1.out w' (hb3.trans (hb.mono hb3.size))).mono fun e w'' h => ⟨h.1, hb.trans (h.2.mono hb.size)⟩
  obtain ⟨c0, c1, c2, c3, c4, c5, c6, c7⟩ := HCELL.out w3 hb3
  clear hb hb3 hbl3
  go_wp2_with fail
  go_cut [7] (fun t wc => t = .string T0 ∧ Hid (Below w3.heap.size w3 wc))
  case first =>
    go_region_held3 (fun w' => Below w3.heap.size w3 w' ∧ w'.cell? ⟨w.heap.size, 1, none⟩ = some (.int .i64 p) ∧ w'.cell? ⟨w2.heap.size, 3, none⟩ = some (.string ⟨#[100, 114, 97, 119]⟩))
      (first | exact HCELL3.out _ (by assumption) | exact HCELL3.out _ (Below.refl _ _).drew | exact HCELL3.out _ (Below.refl _ _) | (go_split_ands; exact HCELL3.out _ (by assumption)))
      (first | (go_at_call 72; refine (HP.out _ ?_).mono ?_; (first | assumption | exact (Below.refl _ _).drew | exact Below.refl _ _ | (go_split_ands; assumption)); rintro e w' ⟨rfl, hq⟩))
    all_goals
      go_wp2_with fail
      go_meet
      exact ⟨by first | rfl | rw [HT0.out], Lib.hid (by assumption)⟩
  case rest =>
    obtain ⟨rfl, HBY⟩ := hcut
    obtain ⟨w4, rfl⟩ : ∃ w4 : World, w4 = wc := ⟨_, rfl⟩
    have HB4 : Hid (Below w1.heap.size w1 w4) := HB3.out.trans (HBY.out.mono HB3.out.size)
    clear c0 c1 c2 c3 c4 c5 c6 c7 d
    obtain ⟨c0, c1, c2, c3, c4, c5, c6, c7⟩ := HCELL.out w4 HB4.out
    go_wp2_with fail
    refine (HI3.out w4 HB4.out).mono ?_
    rintro e w5 ⟨rfl, hb⟩
    have HB5 := Lib.hid (HB4.out.trans (hb.mono HB4.out.size))
    clear hb c0 c1 c2 c3 c4 c5 c6 c7
    obtain ⟨c0, c1, c2, c3, c4, c5, c6, c7⟩ := HCELL.out w5 HB5.out
    go_wp2_with fail
    go_ret2
    exact ⟨by rw [← HFIN.out]; rfl, HB1.out.trans (HB5.out.mono HB1.out.size)⟩


set_option maxHeartbeats 8000000 in
set_option maxRecDepth 100000 in
theorem rline_4 (p t n a m : Int) (u v : ByteArray) (HCK : Hid (checkM ⟨4, p, t, n, a, m, u, v⟩ = 0)) (w : World) (HD : Hid (Door w)) (S : ByteArray) (HS : Hid (⟨(lineM ⟨4, p, t, n, a, m, u, v⟩).toArray⟩ = S)) :
    Calls Tryd.prog 43 #[.agg #[.int .i64 4, .int .i64 p, .int .i64 t, .int .i64 n, .int .i64 a, .int .i64 m, .string u, .string v]] w fun e w' => e = .returned (.tuple #[.string S, .int .i64 0]) ∧ Below w.heap.size w w' := by
  obtain ⟨w1, hw1⟩ : ∃ W, w.alloc (.cells #[.int .i64 4, .int .i64 p, .int .i64 t, .int .i64 n, .int .i64 a, .int .i64 m, .string u, .string v] 30) = W := ⟨_, rfl⟩
  have hb1 : Below w.heap.size w w1 := by rw [← hw1]; exact (Below.refl _ _).alloc (Nat.le_refl _) _
  have hbl : w1.heap[w.heap.size]? = some (.cells #[.int .i64 4, .int .i64 p, .int .i64 t, .int .i64 n, .int .i64 a, .int .i64 m, .string u, .string v] 30 (0, 0)) := by rw [← hw1]; exact World.alloc_heap_new _ _
  have c0 : w1.cell? ⟨w.heap.size, 0, none⟩ = some (.int .i64 4) := by simp [World.cell?, hbl]
  have c1 : w1.cell? ⟨w.heap.size, 1, none⟩ = some (.int .i64 p) := by simp [World.cell?, hbl]
  have c2 : w1.cell? ⟨w.heap.size, 2, none⟩ = some (.int .i64 t) := by simp [World.cell?, hbl]
  have c3 : w1.cell? ⟨w.heap.size, 3, none⟩ = some (.int .i64 n) := by simp [World.cell?, hbl]
  have c4 : w1.cell? ⟨w.heap.size, 4, none⟩ = some (.int .i64 a) := by simp [World.cell?, hbl]
  have c5 : w1.cell? ⟨w.heap.size, 5, none⟩ = some (.int .i64 m) := by simp [World.cell?, hbl]
  have c6 : w1.cell? ⟨w.heap.size, 6, none⟩ = some (.string u) := by simp [World.cell?, hbl]
  have c7 : w1.cell? ⟨w.heap.size, 7, none⟩ = some (.string v) := by simp [World.cell?, hbl]
  have HCELL : Hid (∀ w', Below w1.heap.size w1 w' → w'.cell? ⟨w.heap.size, 0, none⟩ = some (.int .i64 4) ∧ w'.cell? ⟨w.heap.size, 1, none⟩ = some (.int .i64 p) ∧ w'.cell? ⟨w.heap.size, 2, none⟩ = some (.int .i64 t) ∧ w'.cell? ⟨w.heap.size, 3, none⟩ = some (.int .i64 n) ∧ w'.cell? ⟨w.heap.size, 4, none⟩ = some (.int .i64 a) ∧ w'.cell? ⟨w.heap.size, 5, none⟩ = some (.int .i64 m) ∧ w'.cell? ⟨w.heap.size, 6, none⟩ = some (.string u) ∧ w'.cell? ⟨w.heap.size, 7, none⟩ = some (.string v)) := fun w' hb => ⟨cell_below hb c0, cell_below hb c1, cell_below hb c2, cell_below hb c3, cell_below hb c4, cell_below hb c5, cell_below hb c6, cell_below hb c7⟩
  have HB1 := Lib.hid hb1
  have HD1 := Lib.hid (HD.out.below hb1)
  have hck := rcheck_any ⟨4, p, t, n, a, m, u, v⟩ w1
  rw [rcheck_eq, HCK.out] at hck
  have HK : Hid (Calls Tryd.prog 59 #[.agg #[.int .i64 4, .int .i64 p, .int .i64 t, .int .i64 n, .int .i64 a, .int .i64 m, .string u, .string v]] w1 fun e w' => e = .returned (.int .i64 0) ∧ Below w1.heap.size w1 w') := hck
  clear hck hbl hb1
  have hr1 := num_range _ HCK.out 1 (by decide)
  simp only [OpR.num, List.getD_cons_zero, List.getD_cons_succ] at hr1
  have HI1 : Hid (∀ w', Below w1.heap.size w1 w' → Calls Tryd.prog 72 #[.int .i64 p] w' fun e w'' => e = .returned (.string ⟨(Lib.itoa p).toArray⟩) ∧ Below w'.heap.size w' w'') := fun w' hb => itoa_any p (by omega) (by omega) w' (HD1.out.below hb)
  have ho1 : (⟨(Lib.itoa p).toArray⟩ : ByteArray).size ≤ 22 := by
    have := Lib.itoa_length_le p (by omega) (by omega)
    show (Lib.itoa p).length ≤ 22
    omega
  have hr2 := num_range _ HCK.out 2 (by decide)
  simp only [OpR.num, List.getD_cons_zero, List.getD_cons_succ] at hr2
  have HI2 : Hid (∀ w', Below w1.heap.size w1 w' → Calls Tryd.prog 72 #[.int .i64 t] w' fun e w'' => e = .returned (.string ⟨(Lib.itoa t).toArray⟩) ∧ Below w'.heap.size w' w'') := fun w' hb => itoa_any t (by omega) (by omega) w' (HD1.out.below hb)
  have ho2 : (⟨(Lib.itoa t).toArray⟩ : ByteArray).size ≤ 22 := by
    have := Lib.itoa_length_le t (by omega) (by omega)
    show (Lib.itoa t).length ≤ 22
    omega
  have hr3 := num_range _ HCK.out 3 (by decide)
  simp only [OpR.num, List.getD_cons_zero, List.getD_cons_succ] at hr3
  have HI3 : Hid (∀ w', Below w1.heap.size w1 w' → Calls Tryd.prog 72 #[.int .i64 n] w' fun e w'' => e = .returned (.string ⟨(Lib.itoa n).toArray⟩) ∧ Below w'.heap.size w' w'') := fun w' hb => itoa_any n (by omega) (by omega) w' (HD1.out.below hb)
  have ho3 : (⟨(Lib.itoa n).toArray⟩ : ByteArray).size ≤ 22 := by
    have := Lib.itoa_length_le n (by omega) (by omega)
    show (Lib.itoa n).length ≤ 22
    omega
  obtain ⟨o1, eo1⟩ : ∃ o : ByteArray, ⟨(Lib.itoa p).toArray⟩ = o := ⟨_, rfl⟩
  rw [eo1] at HI1 ho1
  have HEO1 := Lib.hid eo1
  obtain ⟨o2, eo2⟩ : ∃ o : ByteArray, ⟨(Lib.itoa t).toArray⟩ = o := ⟨_, rfl⟩
  rw [eo2] at HI2 ho2
  have HEO2 := Lib.hid eo2
  obtain ⟨o3, eo3⟩ : ∃ o : ByteArray, ⟨(Lib.itoa n).toArray⟩ = o := ⟨_, rfl⟩
  rw [eo3] at HI3 ho3
  have HEO3 := Lib.hid eo3
  obtain ⟨T0, hT0⟩ : ∃ T : ByteArray, (⟨#[115, 101, 110, 100]⟩ : ByteArray) ++ ⟨#[32]⟩ ++ o1 = T := ⟨_, rfl⟩
  have HT0 := Lib.hid hT0
  have hz0 : T0.size ≤ 40 := by rw [← hT0, ByteArray.size_append, ByteArray.size_append]; show 4 + 1 + o1.size ≤ 40; omega
  have ha0 : ¬ 9223372036854775807 < 5 + o1.size := by omega
  obtain ⟨s2, hs2⟩ : ∃ T : ByteArray, (⟨#[32]⟩ : ByteArray) ++ o2 = T := ⟨_, rfl⟩
  have hy2 : s2.size ≤ 23 := by rw [← hs2]; exact sp_size _ _ ho2
  obtain ⟨T1, hT1⟩ : ∃ T : ByteArray, T0 ++ s2 = T := ⟨_, rfl⟩
  have hz1 : T1.size ≤ 63 := by rw [← hT1, ByteArray.size_append]; omega
  have hb2 : ¬ 9223372036854775807 < 1 + o2.size := by omega
  have ha1 : ¬ 9223372036854775807 < T0.size + s2.size := by omega
  obtain ⟨s3, hs3⟩ : ∃ T : ByteArray, (⟨#[32]⟩ : ByteArray) ++ o3 = T := ⟨_, rfl⟩
  have hy3 : s3.size ≤ 23 := by rw [← hs3]; exact sp_size _ _ ho3
  obtain ⟨T2, hT2⟩ : ∃ T : ByteArray, T1 ++ s3 = T := ⟨_, rfl⟩
  have hz2 : T2.size ≤ 86 := by rw [← hT2, ByteArray.size_append]; omega
  have hb3 : ¬ 9223372036854775807 < 1 + o3.size := by omega
  have ha2 : ¬ 9223372036854775807 < T1.size + s3.size := by omega
  have HFIN : Hid (T2 = S) := by
    rw [← HS.out, ← hT2, ← hT1, ← hT0, ← hs2, ← hs3, ← HEO1.out, ← HEO2.out, ← HEO3.out]
    apply ByteArray.ext
    simp [lineM, numP, textP, OpR.numT, OpR.textT, OpR.num, OpR.text, wordL]
  clear hr1 eo1 ho1 hr2 eo2 ho2 hr3 eo3 ho3 hz0 hz1 hz2 hy2 hy3 HD HD1 HCK
  go_enter Tryd.func43, Tryd.ntmps43
  go_wp2_with fail
  refine HK.out.mono ?_
  rintro e w2 ⟨rfl, hb⟩
  obtain ⟨w3, hw3⟩ : ∃ W, w2.alloc (.cells #[.string ⟨#[112, 117, 116]⟩, .string ⟨#[100, 101, 108]⟩, .string ⟨#[116, 105, 99, 107]⟩, .string ⟨#[100, 114, 97, 119]⟩, .string ⟨#[115, 101, 110, 100]⟩, .string ⟨#[100, 114, 111, 112]⟩, .string ⟨#[116, 119, 105, 99, 101]⟩, .string ⟨#[98, 101, 110, 100]⟩, .string ⟨#[102, 117, 115, 101]⟩, .string ⟨#[99, 114, 97, 115, 104]⟩, .string ⟨#[115, 116, 97, 114, 116]⟩, .string ⟨#[99, 111, 109, 112, 97, 99, 116]⟩, .string ⟨#[98, 117, 114, 121]⟩] 9) = W := ⟨_, rfl⟩
  have hb3 : Below w1.heap.size w1 w3 := by rw [← hw3]; exact hb.alloc hb.size _
  have hbl3 : w3.heap[w2.heap.size]? = some (.cells #[.string ⟨#[112, 117, 116]⟩, .string ⟨#[100, 101, 108]⟩, .string ⟨#[116, 105, 99, 107]⟩, .string ⟨#[100, 114, 97, 119]⟩, .string ⟨#[115, 101, 110, 100]⟩, .string ⟨#[100, 114, 111, 112]⟩, .string ⟨#[116, 119, 105, 99, 101]⟩, .string ⟨#[98, 101, 110, 100]⟩, .string ⟨#[102, 117, 115, 101]⟩, .string ⟨#[99, 114, 97, 115, 104]⟩, .string ⟨#[115, 116, 97, 114, 116]⟩, .string ⟨#[99, 111, 109, 112, 97, 99, 116]⟩, .string ⟨#[98, 117, 114, 121]⟩] 9 (0, 0)) := by rw [← hw3]; exact World.alloc_heap_new _ _
  have d : w3.cell? ⟨w2.heap.size, 4, none⟩ = some (.string ⟨#[115, 101, 110, 100]⟩) := by simp [World.cell?, hbl3]
  have HB3 := Lib.hid hb3
  have HCELL3 : Hid (∀ w', Below w3.heap.size w3 w' → Below w3.heap.size w3 w' ∧ w'.cell? ⟨w.heap.size, 1, none⟩ = some (.int .i64 p) ∧ w'.cell? ⟨w2.heap.size, 4, none⟩ = some (.string ⟨#[115, 101, 110, 100]⟩)) := fun w' hb => ⟨hb, cell_below hb (HCELL.out w3 hb3).2.1, cell_below hb d⟩
  have HP : Hid (∀ w', Below w3.heap.size w3 w' → Calls Tryd.prog 72 #[.int .i64 p] w' fun e w'' => e = .returned (.string o1) ∧ Below w3.heap.size w3 w'') := fun w' hb => (HI1.out w' (hb3.trans (hb.mono hb3.size))).mono fun e w'' h => ⟨h.1, hb.trans (h.2.mono hb.size)⟩
  obtain ⟨c0, c1, c2, c3, c4, c5, c6, c7⟩ := HCELL.out w3 hb3
  clear hb hb3 hbl3
  go_wp2_with fail
  go_cut [7] (fun t wc => t = .string T0 ∧ Hid (Below w3.heap.size w3 wc))
  case first =>
    go_region_held3 (fun w' => Below w3.heap.size w3 w' ∧ w'.cell? ⟨w.heap.size, 1, none⟩ = some (.int .i64 p) ∧ w'.cell? ⟨w2.heap.size, 4, none⟩ = some (.string ⟨#[115, 101, 110, 100]⟩))
      (first | exact HCELL3.out _ (by assumption) | exact HCELL3.out _ (Below.refl _ _).drew | exact HCELL3.out _ (Below.refl _ _) | (go_split_ands; exact HCELL3.out _ (by assumption)))
      (first | (go_at_call 72; refine (HP.out _ ?_).mono ?_; (first | assumption | exact (Below.refl _ _).drew | exact Below.refl _ _ | (go_split_ands; assumption)); rintro e w' ⟨rfl, hq⟩))
    all_goals
      go_wp2_with fail
      go_meet
      exact ⟨by first | rfl | rw [HT0.out], Lib.hid (by assumption)⟩
  case rest =>
    obtain ⟨rfl, HBY⟩ := hcut
    obtain ⟨w4, rfl⟩ : ∃ w4 : World, w4 = wc := ⟨_, rfl⟩
    have HB4 : Hid (Below w1.heap.size w1 w4) := HB3.out.trans (HBY.out.mono HB3.out.size)
    clear c0 c1 c2 c3 c4 c5 c6 c7 d
    obtain ⟨c0, c1, c2, c3, c4, c5, c6, c7⟩ := HCELL.out w4 HB4.out
    go_wp2_with fail
    refine (HI2.out w4 HB4.out).mono ?_
    rintro e w5 ⟨rfl, hb⟩
    have HB5 := Lib.hid (HB4.out.trans (hb.mono HB4.out.size))
    clear hb c0 c1 c2 c3 c4 c5 c6 c7
    obtain ⟨c0, c1, c2, c3, c4, c5, c6, c7⟩ := HCELL.out w5 HB5.out
    go_wp2_with fail
    refine (HI3.out w5 HB5.out).mono ?_
    rintro e w6 ⟨rfl, hb⟩
    have HB6 := Lib.hid (HB5.out.trans (hb.mono HB5.out.size))
    clear hb c0 c1 c2 c3 c4 c5 c6 c7
    obtain ⟨c0, c1, c2, c3, c4, c5, c6, c7⟩ := HCELL.out w6 HB6.out
    go_wp2_with fail
    go_ret2
    exact ⟨by rw [← HFIN.out]; rfl, HB1.out.trans (HB6.out.mono HB1.out.size)⟩


set_option maxHeartbeats 8000000 in
set_option maxRecDepth 100000 in
theorem rline_5 (p t n a m : Int) (u v : ByteArray) (HCK : Hid (checkM ⟨5, p, t, n, a, m, u, v⟩ = 0)) (w : World) (HD : Hid (Door w)) (S : ByteArray) (HS : Hid (⟨(lineM ⟨5, p, t, n, a, m, u, v⟩).toArray⟩ = S)) :
    Calls Tryd.prog 43 #[.agg #[.int .i64 5, .int .i64 p, .int .i64 t, .int .i64 n, .int .i64 a, .int .i64 m, .string u, .string v]] w fun e w' => e = .returned (.tuple #[.string S, .int .i64 0]) ∧ Below w.heap.size w w' := by
  obtain ⟨w1, hw1⟩ : ∃ W, w.alloc (.cells #[.int .i64 5, .int .i64 p, .int .i64 t, .int .i64 n, .int .i64 a, .int .i64 m, .string u, .string v] 30) = W := ⟨_, rfl⟩
  have hb1 : Below w.heap.size w w1 := by rw [← hw1]; exact (Below.refl _ _).alloc (Nat.le_refl _) _
  have hbl : w1.heap[w.heap.size]? = some (.cells #[.int .i64 5, .int .i64 p, .int .i64 t, .int .i64 n, .int .i64 a, .int .i64 m, .string u, .string v] 30 (0, 0)) := by rw [← hw1]; exact World.alloc_heap_new _ _
  have c0 : w1.cell? ⟨w.heap.size, 0, none⟩ = some (.int .i64 5) := by simp [World.cell?, hbl]
  have c1 : w1.cell? ⟨w.heap.size, 1, none⟩ = some (.int .i64 p) := by simp [World.cell?, hbl]
  have c2 : w1.cell? ⟨w.heap.size, 2, none⟩ = some (.int .i64 t) := by simp [World.cell?, hbl]
  have c3 : w1.cell? ⟨w.heap.size, 3, none⟩ = some (.int .i64 n) := by simp [World.cell?, hbl]
  have c4 : w1.cell? ⟨w.heap.size, 4, none⟩ = some (.int .i64 a) := by simp [World.cell?, hbl]
  have c5 : w1.cell? ⟨w.heap.size, 5, none⟩ = some (.int .i64 m) := by simp [World.cell?, hbl]
  have c6 : w1.cell? ⟨w.heap.size, 6, none⟩ = some (.string u) := by simp [World.cell?, hbl]
  have c7 : w1.cell? ⟨w.heap.size, 7, none⟩ = some (.string v) := by simp [World.cell?, hbl]
  have HCELL : Hid (∀ w', Below w1.heap.size w1 w' → w'.cell? ⟨w.heap.size, 0, none⟩ = some (.int .i64 5) ∧ w'.cell? ⟨w.heap.size, 1, none⟩ = some (.int .i64 p) ∧ w'.cell? ⟨w.heap.size, 2, none⟩ = some (.int .i64 t) ∧ w'.cell? ⟨w.heap.size, 3, none⟩ = some (.int .i64 n) ∧ w'.cell? ⟨w.heap.size, 4, none⟩ = some (.int .i64 a) ∧ w'.cell? ⟨w.heap.size, 5, none⟩ = some (.int .i64 m) ∧ w'.cell? ⟨w.heap.size, 6, none⟩ = some (.string u) ∧ w'.cell? ⟨w.heap.size, 7, none⟩ = some (.string v)) := fun w' hb => ⟨cell_below hb c0, cell_below hb c1, cell_below hb c2, cell_below hb c3, cell_below hb c4, cell_below hb c5, cell_below hb c6, cell_below hb c7⟩
  have HB1 := Lib.hid hb1
  have HD1 := Lib.hid (HD.out.below hb1)
  have hck := rcheck_any ⟨5, p, t, n, a, m, u, v⟩ w1
  rw [rcheck_eq, HCK.out] at hck
  have HK : Hid (Calls Tryd.prog 59 #[.agg #[.int .i64 5, .int .i64 p, .int .i64 t, .int .i64 n, .int .i64 a, .int .i64 m, .string u, .string v]] w1 fun e w' => e = .returned (.int .i64 0) ∧ Below w1.heap.size w1 w') := hck
  clear hck hbl hb1
  have hr1 := num_range _ HCK.out 1 (by decide)
  simp only [OpR.num, List.getD_cons_zero, List.getD_cons_succ] at hr1
  have HI1 : Hid (∀ w', Below w1.heap.size w1 w' → Calls Tryd.prog 72 #[.int .i64 p] w' fun e w'' => e = .returned (.string ⟨(Lib.itoa p).toArray⟩) ∧ Below w'.heap.size w' w'') := fun w' hb => itoa_any p (by omega) (by omega) w' (HD1.out.below hb)
  have ho1 : (⟨(Lib.itoa p).toArray⟩ : ByteArray).size ≤ 22 := by
    have := Lib.itoa_length_le p (by omega) (by omega)
    show (Lib.itoa p).length ≤ 22
    omega
  have hr2 := num_range _ HCK.out 2 (by decide)
  simp only [OpR.num, List.getD_cons_zero, List.getD_cons_succ] at hr2
  have HI2 : Hid (∀ w', Below w1.heap.size w1 w' → Calls Tryd.prog 72 #[.int .i64 t] w' fun e w'' => e = .returned (.string ⟨(Lib.itoa t).toArray⟩) ∧ Below w'.heap.size w' w'') := fun w' hb => itoa_any t (by omega) (by omega) w' (HD1.out.below hb)
  have ho2 : (⟨(Lib.itoa t).toArray⟩ : ByteArray).size ≤ 22 := by
    have := Lib.itoa_length_le t (by omega) (by omega)
    show (Lib.itoa t).length ≤ 22
    omega
  have hr3 := num_range _ HCK.out 3 (by decide)
  simp only [OpR.num, List.getD_cons_zero, List.getD_cons_succ] at hr3
  have HI3 : Hid (∀ w', Below w1.heap.size w1 w' → Calls Tryd.prog 72 #[.int .i64 n] w' fun e w'' => e = .returned (.string ⟨(Lib.itoa n).toArray⟩) ∧ Below w'.heap.size w' w'') := fun w' hb => itoa_any n (by omega) (by omega) w' (HD1.out.below hb)
  have ho3 : (⟨(Lib.itoa n).toArray⟩ : ByteArray).size ≤ 22 := by
    have := Lib.itoa_length_le n (by omega) (by omega)
    show (Lib.itoa n).length ≤ 22
    omega
  obtain ⟨o1, eo1⟩ : ∃ o : ByteArray, ⟨(Lib.itoa p).toArray⟩ = o := ⟨_, rfl⟩
  rw [eo1] at HI1 ho1
  have HEO1 := Lib.hid eo1
  obtain ⟨o2, eo2⟩ : ∃ o : ByteArray, ⟨(Lib.itoa t).toArray⟩ = o := ⟨_, rfl⟩
  rw [eo2] at HI2 ho2
  have HEO2 := Lib.hid eo2
  obtain ⟨o3, eo3⟩ : ∃ o : ByteArray, ⟨(Lib.itoa n).toArray⟩ = o := ⟨_, rfl⟩
  rw [eo3] at HI3 ho3
  have HEO3 := Lib.hid eo3
  obtain ⟨T0, hT0⟩ : ∃ T : ByteArray, (⟨#[100, 114, 111, 112]⟩ : ByteArray) ++ ⟨#[32]⟩ ++ o1 = T := ⟨_, rfl⟩
  have HT0 := Lib.hid hT0
  have hz0 : T0.size ≤ 40 := by rw [← hT0, ByteArray.size_append, ByteArray.size_append]; show 4 + 1 + o1.size ≤ 40; omega
  have ha0 : ¬ 9223372036854775807 < 5 + o1.size := by omega
  obtain ⟨s2, hs2⟩ : ∃ T : ByteArray, (⟨#[32]⟩ : ByteArray) ++ o2 = T := ⟨_, rfl⟩
  have hy2 : s2.size ≤ 23 := by rw [← hs2]; exact sp_size _ _ ho2
  obtain ⟨T1, hT1⟩ : ∃ T : ByteArray, T0 ++ s2 = T := ⟨_, rfl⟩
  have hz1 : T1.size ≤ 63 := by rw [← hT1, ByteArray.size_append]; omega
  have hb2 : ¬ 9223372036854775807 < 1 + o2.size := by omega
  have ha1 : ¬ 9223372036854775807 < T0.size + s2.size := by omega
  obtain ⟨s3, hs3⟩ : ∃ T : ByteArray, (⟨#[32]⟩ : ByteArray) ++ o3 = T := ⟨_, rfl⟩
  have hy3 : s3.size ≤ 23 := by rw [← hs3]; exact sp_size _ _ ho3
  obtain ⟨T2, hT2⟩ : ∃ T : ByteArray, T1 ++ s3 = T := ⟨_, rfl⟩
  have hz2 : T2.size ≤ 86 := by rw [← hT2, ByteArray.size_append]; omega
  have hb3 : ¬ 9223372036854775807 < 1 + o3.size := by omega
  have ha2 : ¬ 9223372036854775807 < T1.size + s3.size := by omega
  have HFIN : Hid (T2 = S) := by
    rw [← HS.out, ← hT2, ← hT1, ← hT0, ← hs2, ← hs3, ← HEO1.out, ← HEO2.out, ← HEO3.out]
    apply ByteArray.ext
    simp [lineM, numP, textP, OpR.numT, OpR.textT, OpR.num, OpR.text, wordL]
  clear hr1 eo1 ho1 hr2 eo2 ho2 hr3 eo3 ho3 hz0 hz1 hz2 hy2 hy3 HD HD1 HCK
  go_enter Tryd.func43, Tryd.ntmps43
  go_wp2_with fail
  refine HK.out.mono ?_
  rintro e w2 ⟨rfl, hb⟩
  obtain ⟨w3, hw3⟩ : ∃ W, w2.alloc (.cells #[.string ⟨#[112, 117, 116]⟩, .string ⟨#[100, 101, 108]⟩, .string ⟨#[116, 105, 99, 107]⟩, .string ⟨#[100, 114, 97, 119]⟩, .string ⟨#[115, 101, 110, 100]⟩, .string ⟨#[100, 114, 111, 112]⟩, .string ⟨#[116, 119, 105, 99, 101]⟩, .string ⟨#[98, 101, 110, 100]⟩, .string ⟨#[102, 117, 115, 101]⟩, .string ⟨#[99, 114, 97, 115, 104]⟩, .string ⟨#[115, 116, 97, 114, 116]⟩, .string ⟨#[99, 111, 109, 112, 97, 99, 116]⟩, .string ⟨#[98, 117, 114, 121]⟩] 9) = W := ⟨_, rfl⟩
  have hb3 : Below w1.heap.size w1 w3 := by rw [← hw3]; exact hb.alloc hb.size _
  have hbl3 : w3.heap[w2.heap.size]? = some (.cells #[.string ⟨#[112, 117, 116]⟩, .string ⟨#[100, 101, 108]⟩, .string ⟨#[116, 105, 99, 107]⟩, .string ⟨#[100, 114, 97, 119]⟩, .string ⟨#[115, 101, 110, 100]⟩, .string ⟨#[100, 114, 111, 112]⟩, .string ⟨#[116, 119, 105, 99, 101]⟩, .string ⟨#[98, 101, 110, 100]⟩, .string ⟨#[102, 117, 115, 101]⟩, .string ⟨#[99, 114, 97, 115, 104]⟩, .string ⟨#[115, 116, 97, 114, 116]⟩, .string ⟨#[99, 111, 109, 112, 97, 99, 116]⟩, .string ⟨#[98, 117, 114, 121]⟩] 9 (0, 0)) := by rw [← hw3]; exact World.alloc_heap_new _ _
  have d : w3.cell? ⟨w2.heap.size, 5, none⟩ = some (.string ⟨#[100, 114, 111, 112]⟩) := by simp [World.cell?, hbl3]
  have HB3 := Lib.hid hb3
  have HCELL3 : Hid (∀ w', Below w3.heap.size w3 w' → Below w3.heap.size w3 w' ∧ w'.cell? ⟨w.heap.size, 1, none⟩ = some (.int .i64 p) ∧ w'.cell? ⟨w2.heap.size, 5, none⟩ = some (.string ⟨#[100, 114, 111, 112]⟩)) := fun w' hb => ⟨hb, cell_below hb (HCELL.out w3 hb3).2.1, cell_below hb d⟩
  have HP : Hid (∀ w', Below w3.heap.size w3 w' → Calls Tryd.prog 72 #[.int .i64 p] w' fun e w'' => e = .returned (.string o1) ∧ Below w3.heap.size w3 w'') := fun w' hb => (HI1.out w' (hb3.trans (hb.mono hb3.size))).mono fun e w'' h => ⟨h.1, hb.trans (h.2.mono hb.size)⟩
  obtain ⟨c0, c1, c2, c3, c4, c5, c6, c7⟩ := HCELL.out w3 hb3
  clear hb hb3 hbl3
  go_wp2_with fail
  go_cut [7] (fun t wc => t = .string T0 ∧ Hid (Below w3.heap.size w3 wc))
  case first =>
    go_region_held3 (fun w' => Below w3.heap.size w3 w' ∧ w'.cell? ⟨w.heap.size, 1, none⟩ = some (.int .i64 p) ∧ w'.cell? ⟨w2.heap.size, 5, none⟩ = some (.string ⟨#[100, 114, 111, 112]⟩))
      (first | exact HCELL3.out _ (by assumption) | exact HCELL3.out _ (Below.refl _ _).drew | exact HCELL3.out _ (Below.refl _ _) | (go_split_ands; exact HCELL3.out _ (by assumption)))
      (first | (go_at_call 72; refine (HP.out _ ?_).mono ?_; (first | assumption | exact (Below.refl _ _).drew | exact Below.refl _ _ | (go_split_ands; assumption)); rintro e w' ⟨rfl, hq⟩))
    all_goals
      go_wp2_with fail
      go_meet
      exact ⟨by first | rfl | rw [HT0.out], Lib.hid (by assumption)⟩
  case rest =>
    obtain ⟨rfl, HBY⟩ := hcut
    obtain ⟨w4, rfl⟩ : ∃ w4 : World, w4 = wc := ⟨_, rfl⟩
    have HB4 : Hid (Below w1.heap.size w1 w4) := HB3.out.trans (HBY.out.mono HB3.out.size)
    clear c0 c1 c2 c3 c4 c5 c6 c7 d
    obtain ⟨c0, c1, c2, c3, c4, c5, c6, c7⟩ := HCELL.out w4 HB4.out
    go_wp2_with fail
    refine (HI2.out w4 HB4.out).mono ?_
    rintro e w5 ⟨rfl, hb⟩
    have HB5 := Lib.hid (HB4.out.trans (hb.mono HB4.out.size))
    clear hb c0 c1 c2 c3 c4 c5 c6 c7
    obtain ⟨c0, c1, c2, c3, c4, c5, c6, c7⟩ := HCELL.out w5 HB5.out
    go_wp2_with fail
    refine (HI3.out w5 HB5.out).mono ?_
    rintro e w6 ⟨rfl, hb⟩
    have HB6 := Lib.hid (HB5.out.trans (hb.mono HB5.out.size))
    clear hb c0 c1 c2 c3 c4 c5 c6 c7
    obtain ⟨c0, c1, c2, c3, c4, c5, c6, c7⟩ := HCELL.out w6 HB6.out
    go_wp2_with fail
    go_ret2
    exact ⟨by rw [← HFIN.out]; rfl, HB1.out.trans (HB6.out.mono HB1.out.size)⟩


set_option maxHeartbeats 8000000 in
set_option maxRecDepth 100000 in
theorem rline_6 (p t n a m : Int) (u v : ByteArray) (HCK : Hid (checkM ⟨6, p, t, n, a, m, u, v⟩ = 0)) (w : World) (HD : Hid (Door w)) (S : ByteArray) (HS : Hid (⟨(lineM ⟨6, p, t, n, a, m, u, v⟩).toArray⟩ = S)) :
    Calls Tryd.prog 43 #[.agg #[.int .i64 6, .int .i64 p, .int .i64 t, .int .i64 n, .int .i64 a, .int .i64 m, .string u, .string v]] w fun e w' => e = .returned (.tuple #[.string S, .int .i64 0]) ∧ Below w.heap.size w w' := by
  obtain ⟨w1, hw1⟩ : ∃ W, w.alloc (.cells #[.int .i64 6, .int .i64 p, .int .i64 t, .int .i64 n, .int .i64 a, .int .i64 m, .string u, .string v] 30) = W := ⟨_, rfl⟩
  have hb1 : Below w.heap.size w w1 := by rw [← hw1]; exact (Below.refl _ _).alloc (Nat.le_refl _) _
  have hbl : w1.heap[w.heap.size]? = some (.cells #[.int .i64 6, .int .i64 p, .int .i64 t, .int .i64 n, .int .i64 a, .int .i64 m, .string u, .string v] 30 (0, 0)) := by rw [← hw1]; exact World.alloc_heap_new _ _
  have c0 : w1.cell? ⟨w.heap.size, 0, none⟩ = some (.int .i64 6) := by simp [World.cell?, hbl]
  have c1 : w1.cell? ⟨w.heap.size, 1, none⟩ = some (.int .i64 p) := by simp [World.cell?, hbl]
  have c2 : w1.cell? ⟨w.heap.size, 2, none⟩ = some (.int .i64 t) := by simp [World.cell?, hbl]
  have c3 : w1.cell? ⟨w.heap.size, 3, none⟩ = some (.int .i64 n) := by simp [World.cell?, hbl]
  have c4 : w1.cell? ⟨w.heap.size, 4, none⟩ = some (.int .i64 a) := by simp [World.cell?, hbl]
  have c5 : w1.cell? ⟨w.heap.size, 5, none⟩ = some (.int .i64 m) := by simp [World.cell?, hbl]
  have c6 : w1.cell? ⟨w.heap.size, 6, none⟩ = some (.string u) := by simp [World.cell?, hbl]
  have c7 : w1.cell? ⟨w.heap.size, 7, none⟩ = some (.string v) := by simp [World.cell?, hbl]
  have HCELL : Hid (∀ w', Below w1.heap.size w1 w' → w'.cell? ⟨w.heap.size, 0, none⟩ = some (.int .i64 6) ∧ w'.cell? ⟨w.heap.size, 1, none⟩ = some (.int .i64 p) ∧ w'.cell? ⟨w.heap.size, 2, none⟩ = some (.int .i64 t) ∧ w'.cell? ⟨w.heap.size, 3, none⟩ = some (.int .i64 n) ∧ w'.cell? ⟨w.heap.size, 4, none⟩ = some (.int .i64 a) ∧ w'.cell? ⟨w.heap.size, 5, none⟩ = some (.int .i64 m) ∧ w'.cell? ⟨w.heap.size, 6, none⟩ = some (.string u) ∧ w'.cell? ⟨w.heap.size, 7, none⟩ = some (.string v)) := fun w' hb => ⟨cell_below hb c0, cell_below hb c1, cell_below hb c2, cell_below hb c3, cell_below hb c4, cell_below hb c5, cell_below hb c6, cell_below hb c7⟩
  have HB1 := Lib.hid hb1
  have HD1 := Lib.hid (HD.out.below hb1)
  have hck := rcheck_any ⟨6, p, t, n, a, m, u, v⟩ w1
  rw [rcheck_eq, HCK.out] at hck
  have HK : Hid (Calls Tryd.prog 59 #[.agg #[.int .i64 6, .int .i64 p, .int .i64 t, .int .i64 n, .int .i64 a, .int .i64 m, .string u, .string v]] w1 fun e w' => e = .returned (.int .i64 0) ∧ Below w1.heap.size w1 w') := hck
  clear hck hbl hb1
  have hr1 := num_range _ HCK.out 1 (by decide)
  simp only [OpR.num, List.getD_cons_zero, List.getD_cons_succ] at hr1
  have HI1 : Hid (∀ w', Below w1.heap.size w1 w' → Calls Tryd.prog 72 #[.int .i64 p] w' fun e w'' => e = .returned (.string ⟨(Lib.itoa p).toArray⟩) ∧ Below w'.heap.size w' w'') := fun w' hb => itoa_any p (by omega) (by omega) w' (HD1.out.below hb)
  have ho1 : (⟨(Lib.itoa p).toArray⟩ : ByteArray).size ≤ 22 := by
    have := Lib.itoa_length_le p (by omega) (by omega)
    show (Lib.itoa p).length ≤ 22
    omega
  have hr2 := num_range _ HCK.out 2 (by decide)
  simp only [OpR.num, List.getD_cons_zero, List.getD_cons_succ] at hr2
  have HI2 : Hid (∀ w', Below w1.heap.size w1 w' → Calls Tryd.prog 72 #[.int .i64 t] w' fun e w'' => e = .returned (.string ⟨(Lib.itoa t).toArray⟩) ∧ Below w'.heap.size w' w'') := fun w' hb => itoa_any t (by omega) (by omega) w' (HD1.out.below hb)
  have ho2 : (⟨(Lib.itoa t).toArray⟩ : ByteArray).size ≤ 22 := by
    have := Lib.itoa_length_le t (by omega) (by omega)
    show (Lib.itoa t).length ≤ 22
    omega
  have hr3 := num_range _ HCK.out 3 (by decide)
  simp only [OpR.num, List.getD_cons_zero, List.getD_cons_succ] at hr3
  have HI3 : Hid (∀ w', Below w1.heap.size w1 w' → Calls Tryd.prog 72 #[.int .i64 n] w' fun e w'' => e = .returned (.string ⟨(Lib.itoa n).toArray⟩) ∧ Below w'.heap.size w' w'') := fun w' hb => itoa_any n (by omega) (by omega) w' (HD1.out.below hb)
  have ho3 : (⟨(Lib.itoa n).toArray⟩ : ByteArray).size ≤ 22 := by
    have := Lib.itoa_length_le n (by omega) (by omega)
    show (Lib.itoa n).length ≤ 22
    omega
  obtain ⟨o1, eo1⟩ : ∃ o : ByteArray, ⟨(Lib.itoa p).toArray⟩ = o := ⟨_, rfl⟩
  rw [eo1] at HI1 ho1
  have HEO1 := Lib.hid eo1
  obtain ⟨o2, eo2⟩ : ∃ o : ByteArray, ⟨(Lib.itoa t).toArray⟩ = o := ⟨_, rfl⟩
  rw [eo2] at HI2 ho2
  have HEO2 := Lib.hid eo2
  obtain ⟨o3, eo3⟩ : ∃ o : ByteArray, ⟨(Lib.itoa n).toArray⟩ = o := ⟨_, rfl⟩
  rw [eo3] at HI3 ho3
  have HEO3 := Lib.hid eo3
  obtain ⟨T0, hT0⟩ : ∃ T : ByteArray, (⟨#[116, 119, 105, 99, 101]⟩ : ByteArray) ++ ⟨#[32]⟩ ++ o1 = T := ⟨_, rfl⟩
  have HT0 := Lib.hid hT0
  have hz0 : T0.size ≤ 40 := by rw [← hT0, ByteArray.size_append, ByteArray.size_append]; show 5 + 1 + o1.size ≤ 40; omega
  have ha0 : ¬ 9223372036854775807 < 6 + o1.size := by omega
  obtain ⟨s2, hs2⟩ : ∃ T : ByteArray, (⟨#[32]⟩ : ByteArray) ++ o2 = T := ⟨_, rfl⟩
  have hy2 : s2.size ≤ 23 := by rw [← hs2]; exact sp_size _ _ ho2
  obtain ⟨T1, hT1⟩ : ∃ T : ByteArray, T0 ++ s2 = T := ⟨_, rfl⟩
  have hz1 : T1.size ≤ 63 := by rw [← hT1, ByteArray.size_append]; omega
  have hb2 : ¬ 9223372036854775807 < 1 + o2.size := by omega
  have ha1 : ¬ 9223372036854775807 < T0.size + s2.size := by omega
  obtain ⟨s3, hs3⟩ : ∃ T : ByteArray, (⟨#[32]⟩ : ByteArray) ++ o3 = T := ⟨_, rfl⟩
  have hy3 : s3.size ≤ 23 := by rw [← hs3]; exact sp_size _ _ ho3
  obtain ⟨T2, hT2⟩ : ∃ T : ByteArray, T1 ++ s3 = T := ⟨_, rfl⟩
  have hz2 : T2.size ≤ 86 := by rw [← hT2, ByteArray.size_append]; omega
  have hb3 : ¬ 9223372036854775807 < 1 + o3.size := by omega
  have ha2 : ¬ 9223372036854775807 < T1.size + s3.size := by omega
  have HFIN : Hid (T2 = S) := by
    rw [← HS.out, ← hT2, ← hT1, ← hT0, ← hs2, ← hs3, ← HEO1.out, ← HEO2.out, ← HEO3.out]
    apply ByteArray.ext
    simp [lineM, numP, textP, OpR.numT, OpR.textT, OpR.num, OpR.text, wordL]
  clear hr1 eo1 ho1 hr2 eo2 ho2 hr3 eo3 ho3 hz0 hz1 hz2 hy2 hy3 HD HD1 HCK
  go_enter Tryd.func43, Tryd.ntmps43
  go_wp2_with fail
  refine HK.out.mono ?_
  rintro e w2 ⟨rfl, hb⟩
  obtain ⟨w3, hw3⟩ : ∃ W, w2.alloc (.cells #[.string ⟨#[112, 117, 116]⟩, .string ⟨#[100, 101, 108]⟩, .string ⟨#[116, 105, 99, 107]⟩, .string ⟨#[100, 114, 97, 119]⟩, .string ⟨#[115, 101, 110, 100]⟩, .string ⟨#[100, 114, 111, 112]⟩, .string ⟨#[116, 119, 105, 99, 101]⟩, .string ⟨#[98, 101, 110, 100]⟩, .string ⟨#[102, 117, 115, 101]⟩, .string ⟨#[99, 114, 97, 115, 104]⟩, .string ⟨#[115, 116, 97, 114, 116]⟩, .string ⟨#[99, 111, 109, 112, 97, 99, 116]⟩, .string ⟨#[98, 117, 114, 121]⟩] 9) = W := ⟨_, rfl⟩
  have hb3 : Below w1.heap.size w1 w3 := by rw [← hw3]; exact hb.alloc hb.size _
  have hbl3 : w3.heap[w2.heap.size]? = some (.cells #[.string ⟨#[112, 117, 116]⟩, .string ⟨#[100, 101, 108]⟩, .string ⟨#[116, 105, 99, 107]⟩, .string ⟨#[100, 114, 97, 119]⟩, .string ⟨#[115, 101, 110, 100]⟩, .string ⟨#[100, 114, 111, 112]⟩, .string ⟨#[116, 119, 105, 99, 101]⟩, .string ⟨#[98, 101, 110, 100]⟩, .string ⟨#[102, 117, 115, 101]⟩, .string ⟨#[99, 114, 97, 115, 104]⟩, .string ⟨#[115, 116, 97, 114, 116]⟩, .string ⟨#[99, 111, 109, 112, 97, 99, 116]⟩, .string ⟨#[98, 117, 114, 121]⟩] 9 (0, 0)) := by rw [← hw3]; exact World.alloc_heap_new _ _
  have d : w3.cell? ⟨w2.heap.size, 6, none⟩ = some (.string ⟨#[116, 119, 105, 99, 101]⟩) := by simp [World.cell?, hbl3]
  have HB3 := Lib.hid hb3
  have HCELL3 : Hid (∀ w', Below w3.heap.size w3 w' → Below w3.heap.size w3 w' ∧ w'.cell? ⟨w.heap.size, 1, none⟩ = some (.int .i64 p) ∧ w'.cell? ⟨w2.heap.size, 6, none⟩ = some (.string ⟨#[116, 119, 105, 99, 101]⟩)) := fun w' hb => ⟨hb, cell_below hb (HCELL.out w3 hb3).2.1, cell_below hb d⟩
  have HP : Hid (∀ w', Below w3.heap.size w3 w' → Calls Tryd.prog 72 #[.int .i64 p] w' fun e w'' => e = .returned (.string o1) ∧ Below w3.heap.size w3 w'') := fun w' hb => (HI1.out w' (hb3.trans (hb.mono hb3.size))).mono fun e w'' h => ⟨h.1, hb.trans (h.2.mono hb.size)⟩
  obtain ⟨c0, c1, c2, c3, c4, c5, c6, c7⟩ := HCELL.out w3 hb3
  clear hb hb3 hbl3
  go_wp2_with fail
  go_cut [7] (fun t wc => t = .string T0 ∧ Hid (Below w3.heap.size w3 wc))
  case first =>
    go_region_held3 (fun w' => Below w3.heap.size w3 w' ∧ w'.cell? ⟨w.heap.size, 1, none⟩ = some (.int .i64 p) ∧ w'.cell? ⟨w2.heap.size, 6, none⟩ = some (.string ⟨#[116, 119, 105, 99, 101]⟩))
      (first | exact HCELL3.out _ (by assumption) | exact HCELL3.out _ (Below.refl _ _).drew | exact HCELL3.out _ (Below.refl _ _) | (go_split_ands; exact HCELL3.out _ (by assumption)))
      (first | (go_at_call 72; refine (HP.out _ ?_).mono ?_; (first | assumption | exact (Below.refl _ _).drew | exact Below.refl _ _ | (go_split_ands; assumption)); rintro e w' ⟨rfl, hq⟩))
    all_goals
      go_wp2_with fail
      go_meet
      exact ⟨by first | rfl | rw [HT0.out], Lib.hid (by assumption)⟩
  case rest =>
    obtain ⟨rfl, HBY⟩ := hcut
    obtain ⟨w4, rfl⟩ : ∃ w4 : World, w4 = wc := ⟨_, rfl⟩
    have HB4 : Hid (Below w1.heap.size w1 w4) := HB3.out.trans (HBY.out.mono HB3.out.size)
    clear c0 c1 c2 c3 c4 c5 c6 c7 d
    obtain ⟨c0, c1, c2, c3, c4, c5, c6, c7⟩ := HCELL.out w4 HB4.out
    go_wp2_with fail
    refine (HI2.out w4 HB4.out).mono ?_
    rintro e w5 ⟨rfl, hb⟩
    have HB5 := Lib.hid (HB4.out.trans (hb.mono HB4.out.size))
    clear hb c0 c1 c2 c3 c4 c5 c6 c7
    obtain ⟨c0, c1, c2, c3, c4, c5, c6, c7⟩ := HCELL.out w5 HB5.out
    go_wp2_with fail
    refine (HI3.out w5 HB5.out).mono ?_
    rintro e w6 ⟨rfl, hb⟩
    have HB6 := Lib.hid (HB5.out.trans (hb.mono HB5.out.size))
    clear hb c0 c1 c2 c3 c4 c5 c6 c7
    obtain ⟨c0, c1, c2, c3, c4, c5, c6, c7⟩ := HCELL.out w6 HB6.out
    go_wp2_with fail
    go_ret2
    exact ⟨by rw [← HFIN.out]; rfl, HB1.out.trans (HB6.out.mono HB1.out.size)⟩


set_option maxHeartbeats 8000000 in
set_option maxRecDepth 100000 in
theorem rline_7 (p t n a m : Int) (u v : ByteArray) (HCK : Hid (checkM ⟨7, p, t, n, a, m, u, v⟩ = 0)) (w : World) (HD : Hid (Door w)) (S : ByteArray) (HS : Hid (⟨(lineM ⟨7, p, t, n, a, m, u, v⟩).toArray⟩ = S)) :
    Calls Tryd.prog 43 #[.agg #[.int .i64 7, .int .i64 p, .int .i64 t, .int .i64 n, .int .i64 a, .int .i64 m, .string u, .string v]] w fun e w' => e = .returned (.tuple #[.string S, .int .i64 0]) ∧ Below w.heap.size w w' := by
  obtain ⟨w1, hw1⟩ : ∃ W, w.alloc (.cells #[.int .i64 7, .int .i64 p, .int .i64 t, .int .i64 n, .int .i64 a, .int .i64 m, .string u, .string v] 30) = W := ⟨_, rfl⟩
  have hb1 : Below w.heap.size w w1 := by rw [← hw1]; exact (Below.refl _ _).alloc (Nat.le_refl _) _
  have hbl : w1.heap[w.heap.size]? = some (.cells #[.int .i64 7, .int .i64 p, .int .i64 t, .int .i64 n, .int .i64 a, .int .i64 m, .string u, .string v] 30 (0, 0)) := by rw [← hw1]; exact World.alloc_heap_new _ _
  have c0 : w1.cell? ⟨w.heap.size, 0, none⟩ = some (.int .i64 7) := by simp [World.cell?, hbl]
  have c1 : w1.cell? ⟨w.heap.size, 1, none⟩ = some (.int .i64 p) := by simp [World.cell?, hbl]
  have c2 : w1.cell? ⟨w.heap.size, 2, none⟩ = some (.int .i64 t) := by simp [World.cell?, hbl]
  have c3 : w1.cell? ⟨w.heap.size, 3, none⟩ = some (.int .i64 n) := by simp [World.cell?, hbl]
  have c4 : w1.cell? ⟨w.heap.size, 4, none⟩ = some (.int .i64 a) := by simp [World.cell?, hbl]
  have c5 : w1.cell? ⟨w.heap.size, 5, none⟩ = some (.int .i64 m) := by simp [World.cell?, hbl]
  have c6 : w1.cell? ⟨w.heap.size, 6, none⟩ = some (.string u) := by simp [World.cell?, hbl]
  have c7 : w1.cell? ⟨w.heap.size, 7, none⟩ = some (.string v) := by simp [World.cell?, hbl]
  have HCELL : Hid (∀ w', Below w1.heap.size w1 w' → w'.cell? ⟨w.heap.size, 0, none⟩ = some (.int .i64 7) ∧ w'.cell? ⟨w.heap.size, 1, none⟩ = some (.int .i64 p) ∧ w'.cell? ⟨w.heap.size, 2, none⟩ = some (.int .i64 t) ∧ w'.cell? ⟨w.heap.size, 3, none⟩ = some (.int .i64 n) ∧ w'.cell? ⟨w.heap.size, 4, none⟩ = some (.int .i64 a) ∧ w'.cell? ⟨w.heap.size, 5, none⟩ = some (.int .i64 m) ∧ w'.cell? ⟨w.heap.size, 6, none⟩ = some (.string u) ∧ w'.cell? ⟨w.heap.size, 7, none⟩ = some (.string v)) := fun w' hb => ⟨cell_below hb c0, cell_below hb c1, cell_below hb c2, cell_below hb c3, cell_below hb c4, cell_below hb c5, cell_below hb c6, cell_below hb c7⟩
  have HB1 := Lib.hid hb1
  have HD1 := Lib.hid (HD.out.below hb1)
  have hck := rcheck_any ⟨7, p, t, n, a, m, u, v⟩ w1
  rw [rcheck_eq, HCK.out] at hck
  have HK : Hid (Calls Tryd.prog 59 #[.agg #[.int .i64 7, .int .i64 p, .int .i64 t, .int .i64 n, .int .i64 a, .int .i64 m, .string u, .string v]] w1 fun e w' => e = .returned (.int .i64 0) ∧ Below w1.heap.size w1 w') := hck
  clear hck hbl hb1
  have hr1 := num_range _ HCK.out 1 (by decide)
  simp only [OpR.num, List.getD_cons_zero, List.getD_cons_succ] at hr1
  have HI1 : Hid (∀ w', Below w1.heap.size w1 w' → Calls Tryd.prog 72 #[.int .i64 p] w' fun e w'' => e = .returned (.string ⟨(Lib.itoa p).toArray⟩) ∧ Below w'.heap.size w' w'') := fun w' hb => itoa_any p (by omega) (by omega) w' (HD1.out.below hb)
  have ho1 : (⟨(Lib.itoa p).toArray⟩ : ByteArray).size ≤ 22 := by
    have := Lib.itoa_length_le p (by omega) (by omega)
    show (Lib.itoa p).length ≤ 22
    omega
  have hr2 := num_range _ HCK.out 2 (by decide)
  simp only [OpR.num, List.getD_cons_zero, List.getD_cons_succ] at hr2
  have HI2 : Hid (∀ w', Below w1.heap.size w1 w' → Calls Tryd.prog 72 #[.int .i64 t] w' fun e w'' => e = .returned (.string ⟨(Lib.itoa t).toArray⟩) ∧ Below w'.heap.size w' w'') := fun w' hb => itoa_any t (by omega) (by omega) w' (HD1.out.below hb)
  have ho2 : (⟨(Lib.itoa t).toArray⟩ : ByteArray).size ≤ 22 := by
    have := Lib.itoa_length_le t (by omega) (by omega)
    show (Lib.itoa t).length ≤ 22
    omega
  have hr3 := num_range _ HCK.out 3 (by decide)
  simp only [OpR.num, List.getD_cons_zero, List.getD_cons_succ] at hr3
  have HI3 : Hid (∀ w', Below w1.heap.size w1 w' → Calls Tryd.prog 72 #[.int .i64 n] w' fun e w'' => e = .returned (.string ⟨(Lib.itoa n).toArray⟩) ∧ Below w'.heap.size w' w'') := fun w' hb => itoa_any n (by omega) (by omega) w' (HD1.out.below hb)
  have ho3 : (⟨(Lib.itoa n).toArray⟩ : ByteArray).size ≤ 22 := by
    have := Lib.itoa_length_le n (by omega) (by omega)
    show (Lib.itoa n).length ≤ 22
    omega
  have hr4 := num_range _ HCK.out 4 (by decide)
  simp only [OpR.num, List.getD_cons_zero, List.getD_cons_succ] at hr4
  have HI4 : Hid (∀ w', Below w1.heap.size w1 w' → Calls Tryd.prog 72 #[.int .i64 a] w' fun e w'' => e = .returned (.string ⟨(Lib.itoa a).toArray⟩) ∧ Below w'.heap.size w' w'') := fun w' hb => itoa_any a (by omega) (by omega) w' (HD1.out.below hb)
  have ho4 : (⟨(Lib.itoa a).toArray⟩ : ByteArray).size ≤ 22 := by
    have := Lib.itoa_length_le a (by omega) (by omega)
    show (Lib.itoa a).length ≤ 22
    omega
  have hr5 := num_range _ HCK.out 5 (by decide)
  simp only [OpR.num, List.getD_cons_zero, List.getD_cons_succ] at hr5
  have HI5 : Hid (∀ w', Below w1.heap.size w1 w' → Calls Tryd.prog 72 #[.int .i64 m] w' fun e w'' => e = .returned (.string ⟨(Lib.itoa m).toArray⟩) ∧ Below w'.heap.size w' w'') := fun w' hb => itoa_any m (by omega) (by omega) w' (HD1.out.below hb)
  have ho5 : (⟨(Lib.itoa m).toArray⟩ : ByteArray).size ≤ 22 := by
    have := Lib.itoa_length_le m (by omega) (by omega)
    show (Lib.itoa m).length ≤ 22
    omega
  obtain ⟨o1, eo1⟩ : ∃ o : ByteArray, ⟨(Lib.itoa p).toArray⟩ = o := ⟨_, rfl⟩
  rw [eo1] at HI1 ho1
  have HEO1 := Lib.hid eo1
  obtain ⟨o2, eo2⟩ : ∃ o : ByteArray, ⟨(Lib.itoa t).toArray⟩ = o := ⟨_, rfl⟩
  rw [eo2] at HI2 ho2
  have HEO2 := Lib.hid eo2
  obtain ⟨o3, eo3⟩ : ∃ o : ByteArray, ⟨(Lib.itoa n).toArray⟩ = o := ⟨_, rfl⟩
  rw [eo3] at HI3 ho3
  have HEO3 := Lib.hid eo3
  obtain ⟨o4, eo4⟩ : ∃ o : ByteArray, ⟨(Lib.itoa a).toArray⟩ = o := ⟨_, rfl⟩
  rw [eo4] at HI4 ho4
  have HEO4 := Lib.hid eo4
  obtain ⟨o5, eo5⟩ : ∃ o : ByteArray, ⟨(Lib.itoa m).toArray⟩ = o := ⟨_, rfl⟩
  rw [eo5] at HI5 ho5
  have HEO5 := Lib.hid eo5
  obtain ⟨T0, hT0⟩ : ∃ T : ByteArray, (⟨#[98, 101, 110, 100]⟩ : ByteArray) ++ ⟨#[32]⟩ ++ o1 = T := ⟨_, rfl⟩
  have HT0 := Lib.hid hT0
  have hz0 : T0.size ≤ 40 := by rw [← hT0, ByteArray.size_append, ByteArray.size_append]; show 4 + 1 + o1.size ≤ 40; omega
  have ha0 : ¬ 9223372036854775807 < 5 + o1.size := by omega
  obtain ⟨s2, hs2⟩ : ∃ T : ByteArray, (⟨#[32]⟩ : ByteArray) ++ o2 = T := ⟨_, rfl⟩
  have hy2 : s2.size ≤ 23 := by rw [← hs2]; exact sp_size _ _ ho2
  obtain ⟨T1, hT1⟩ : ∃ T : ByteArray, T0 ++ s2 = T := ⟨_, rfl⟩
  have hz1 : T1.size ≤ 63 := by rw [← hT1, ByteArray.size_append]; omega
  have hb2 : ¬ 9223372036854775807 < 1 + o2.size := by omega
  have ha1 : ¬ 9223372036854775807 < T0.size + s2.size := by omega
  obtain ⟨s3, hs3⟩ : ∃ T : ByteArray, (⟨#[32]⟩ : ByteArray) ++ o3 = T := ⟨_, rfl⟩
  have hy3 : s3.size ≤ 23 := by rw [← hs3]; exact sp_size _ _ ho3
  obtain ⟨T2, hT2⟩ : ∃ T : ByteArray, T1 ++ s3 = T := ⟨_, rfl⟩
  have hz2 : T2.size ≤ 86 := by rw [← hT2, ByteArray.size_append]; omega
  have hb3 : ¬ 9223372036854775807 < 1 + o3.size := by omega
  have ha2 : ¬ 9223372036854775807 < T1.size + s3.size := by omega
  obtain ⟨s4, hs4⟩ : ∃ T : ByteArray, (⟨#[32]⟩ : ByteArray) ++ o4 = T := ⟨_, rfl⟩
  have hy4 : s4.size ≤ 23 := by rw [← hs4]; exact sp_size _ _ ho4
  obtain ⟨T3, hT3⟩ : ∃ T : ByteArray, T2 ++ s4 = T := ⟨_, rfl⟩
  have hz3 : T3.size ≤ 109 := by rw [← hT3, ByteArray.size_append]; omega
  have hb4 : ¬ 9223372036854775807 < 1 + o4.size := by omega
  have ha3 : ¬ 9223372036854775807 < T2.size + s4.size := by omega
  obtain ⟨s5, hs5⟩ : ∃ T : ByteArray, (⟨#[32]⟩ : ByteArray) ++ o5 = T := ⟨_, rfl⟩
  have hy5 : s5.size ≤ 23 := by rw [← hs5]; exact sp_size _ _ ho5
  obtain ⟨T4, hT4⟩ : ∃ T : ByteArray, T3 ++ s5 = T := ⟨_, rfl⟩
  have hz4 : T4.size ≤ 132 := by rw [← hT4, ByteArray.size_append]; omega
  have hb5 : ¬ 9223372036854775807 < 1 + o5.size := by omega
  have ha4 : ¬ 9223372036854775807 < T3.size + s5.size := by omega
  have HFIN : Hid (T4 = S) := by
    rw [← HS.out, ← hT4, ← hT3, ← hT2, ← hT1, ← hT0, ← hs2, ← hs3, ← hs4, ← hs5, ← HEO1.out, ← HEO2.out, ← HEO3.out, ← HEO4.out, ← HEO5.out]
    apply ByteArray.ext
    simp [lineM, numP, textP, OpR.numT, OpR.textT, OpR.num, OpR.text, wordL]
  clear hr1 eo1 ho1 hr2 eo2 ho2 hr3 eo3 ho3 hr4 eo4 ho4 hr5 eo5 ho5 hz0 hz1 hz2 hz3 hz4 hy2 hy3 hy4 hy5 HD HD1 HCK
  go_enter Tryd.func43, Tryd.ntmps43
  go_wp2_with fail
  refine HK.out.mono ?_
  rintro e w2 ⟨rfl, hb⟩
  obtain ⟨w3, hw3⟩ : ∃ W, w2.alloc (.cells #[.string ⟨#[112, 117, 116]⟩, .string ⟨#[100, 101, 108]⟩, .string ⟨#[116, 105, 99, 107]⟩, .string ⟨#[100, 114, 97, 119]⟩, .string ⟨#[115, 101, 110, 100]⟩, .string ⟨#[100, 114, 111, 112]⟩, .string ⟨#[116, 119, 105, 99, 101]⟩, .string ⟨#[98, 101, 110, 100]⟩, .string ⟨#[102, 117, 115, 101]⟩, .string ⟨#[99, 114, 97, 115, 104]⟩, .string ⟨#[115, 116, 97, 114, 116]⟩, .string ⟨#[99, 111, 109, 112, 97, 99, 116]⟩, .string ⟨#[98, 117, 114, 121]⟩] 9) = W := ⟨_, rfl⟩
  have hb3 : Below w1.heap.size w1 w3 := by rw [← hw3]; exact hb.alloc hb.size _
  have hbl3 : w3.heap[w2.heap.size]? = some (.cells #[.string ⟨#[112, 117, 116]⟩, .string ⟨#[100, 101, 108]⟩, .string ⟨#[116, 105, 99, 107]⟩, .string ⟨#[100, 114, 97, 119]⟩, .string ⟨#[115, 101, 110, 100]⟩, .string ⟨#[100, 114, 111, 112]⟩, .string ⟨#[116, 119, 105, 99, 101]⟩, .string ⟨#[98, 101, 110, 100]⟩, .string ⟨#[102, 117, 115, 101]⟩, .string ⟨#[99, 114, 97, 115, 104]⟩, .string ⟨#[115, 116, 97, 114, 116]⟩, .string ⟨#[99, 111, 109, 112, 97, 99, 116]⟩, .string ⟨#[98, 117, 114, 121]⟩] 9 (0, 0)) := by rw [← hw3]; exact World.alloc_heap_new _ _
  have d : w3.cell? ⟨w2.heap.size, 7, none⟩ = some (.string ⟨#[98, 101, 110, 100]⟩) := by simp [World.cell?, hbl3]
  have HB3 := Lib.hid hb3
  have HCELL3 : Hid (∀ w', Below w3.heap.size w3 w' → Below w3.heap.size w3 w' ∧ w'.cell? ⟨w.heap.size, 1, none⟩ = some (.int .i64 p) ∧ w'.cell? ⟨w2.heap.size, 7, none⟩ = some (.string ⟨#[98, 101, 110, 100]⟩)) := fun w' hb => ⟨hb, cell_below hb (HCELL.out w3 hb3).2.1, cell_below hb d⟩
  have HP : Hid (∀ w', Below w3.heap.size w3 w' → Calls Tryd.prog 72 #[.int .i64 p] w' fun e w'' => e = .returned (.string o1) ∧ Below w3.heap.size w3 w'') := fun w' hb => (HI1.out w' (hb3.trans (hb.mono hb3.size))).mono fun e w'' h => ⟨h.1, hb.trans (h.2.mono hb.size)⟩
  obtain ⟨c0, c1, c2, c3, c4, c5, c6, c7⟩ := HCELL.out w3 hb3
  clear hb hb3 hbl3
  go_wp2_with fail
  go_cut [7] (fun t wc => t = .string T0 ∧ Hid (Below w3.heap.size w3 wc))
  case first =>
    go_region_held3 (fun w' => Below w3.heap.size w3 w' ∧ w'.cell? ⟨w.heap.size, 1, none⟩ = some (.int .i64 p) ∧ w'.cell? ⟨w2.heap.size, 7, none⟩ = some (.string ⟨#[98, 101, 110, 100]⟩))
      (first | exact HCELL3.out _ (by assumption) | exact HCELL3.out _ (Below.refl _ _).drew | exact HCELL3.out _ (Below.refl _ _) | (go_split_ands; exact HCELL3.out _ (by assumption)))
      (first | (go_at_call 72; refine (HP.out _ ?_).mono ?_; (first | assumption | exact (Below.refl _ _).drew | exact Below.refl _ _ | (go_split_ands; assumption)); rintro e w' ⟨rfl, hq⟩))
    all_goals
      go_wp2_with fail
      go_meet
      exact ⟨by first | rfl | rw [HT0.out], Lib.hid (by assumption)⟩
  case rest =>
    obtain ⟨rfl, HBY⟩ := hcut
    obtain ⟨w4, rfl⟩ : ∃ w4 : World, w4 = wc := ⟨_, rfl⟩
    have HB4 : Hid (Below w1.heap.size w1 w4) := HB3.out.trans (HBY.out.mono HB3.out.size)
    clear c0 c1 c2 c3 c4 c5 c6 c7 d
    obtain ⟨c0, c1, c2, c3, c4, c5, c6, c7⟩ := HCELL.out w4 HB4.out
    go_wp2_with fail
    refine (HI2.out w4 HB4.out).mono ?_
    rintro e w5 ⟨rfl, hb⟩
    have HB5 := Lib.hid (HB4.out.trans (hb.mono HB4.out.size))
    clear hb c0 c1 c2 c3 c4 c5 c6 c7
    obtain ⟨c0, c1, c2, c3, c4, c5, c6, c7⟩ := HCELL.out w5 HB5.out
    go_wp2_with fail
    refine (HI3.out w5 HB5.out).mono ?_
    rintro e w6 ⟨rfl, hb⟩
    have HB6 := Lib.hid (HB5.out.trans (hb.mono HB5.out.size))
    clear hb c0 c1 c2 c3 c4 c5 c6 c7
    obtain ⟨c0, c1, c2, c3, c4, c5, c6, c7⟩ := HCELL.out w6 HB6.out
    go_wp2_with fail
    refine (HI4.out w6 HB6.out).mono ?_
    rintro e w7 ⟨rfl, hb⟩
    have HB7 := Lib.hid (HB6.out.trans (hb.mono HB6.out.size))
    clear hb c0 c1 c2 c3 c4 c5 c6 c7
    obtain ⟨c0, c1, c2, c3, c4, c5, c6, c7⟩ := HCELL.out w7 HB7.out
    go_wp2_with fail
    refine (HI5.out w7 HB7.out).mono ?_
    rintro e w8 ⟨rfl, hb⟩
    have HB8 := Lib.hid (HB7.out.trans (hb.mono HB7.out.size))
    clear hb c0 c1 c2 c3 c4 c5 c6 c7
    obtain ⟨c0, c1, c2, c3, c4, c5, c6, c7⟩ := HCELL.out w8 HB8.out
    go_wp2_with fail
    go_ret2
    exact ⟨by rw [← HFIN.out]; rfl, HB1.out.trans (HB8.out.mono HB1.out.size)⟩


set_option maxHeartbeats 8000000 in
set_option maxRecDepth 100000 in
theorem rline_8 (p t n a m : Int) (u v : ByteArray) (HCK : Hid (checkM ⟨8, p, t, n, a, m, u, v⟩ = 0)) (w : World) (HD : Hid (Door w)) (S : ByteArray) (HS : Hid (⟨(lineM ⟨8, p, t, n, a, m, u, v⟩).toArray⟩ = S)) :
    Calls Tryd.prog 43 #[.agg #[.int .i64 8, .int .i64 p, .int .i64 t, .int .i64 n, .int .i64 a, .int .i64 m, .string u, .string v]] w fun e w' => e = .returned (.tuple #[.string S, .int .i64 0]) ∧ Below w.heap.size w w' := by
  obtain ⟨w1, hw1⟩ : ∃ W, w.alloc (.cells #[.int .i64 8, .int .i64 p, .int .i64 t, .int .i64 n, .int .i64 a, .int .i64 m, .string u, .string v] 30) = W := ⟨_, rfl⟩
  have hb1 : Below w.heap.size w w1 := by rw [← hw1]; exact (Below.refl _ _).alloc (Nat.le_refl _) _
  have hbl : w1.heap[w.heap.size]? = some (.cells #[.int .i64 8, .int .i64 p, .int .i64 t, .int .i64 n, .int .i64 a, .int .i64 m, .string u, .string v] 30 (0, 0)) := by rw [← hw1]; exact World.alloc_heap_new _ _
  have c0 : w1.cell? ⟨w.heap.size, 0, none⟩ = some (.int .i64 8) := by simp [World.cell?, hbl]
  have c1 : w1.cell? ⟨w.heap.size, 1, none⟩ = some (.int .i64 p) := by simp [World.cell?, hbl]
  have c2 : w1.cell? ⟨w.heap.size, 2, none⟩ = some (.int .i64 t) := by simp [World.cell?, hbl]
  have c3 : w1.cell? ⟨w.heap.size, 3, none⟩ = some (.int .i64 n) := by simp [World.cell?, hbl]
  have c4 : w1.cell? ⟨w.heap.size, 4, none⟩ = some (.int .i64 a) := by simp [World.cell?, hbl]
  have c5 : w1.cell? ⟨w.heap.size, 5, none⟩ = some (.int .i64 m) := by simp [World.cell?, hbl]
  have c6 : w1.cell? ⟨w.heap.size, 6, none⟩ = some (.string u) := by simp [World.cell?, hbl]
  have c7 : w1.cell? ⟨w.heap.size, 7, none⟩ = some (.string v) := by simp [World.cell?, hbl]
  have HCELL : Hid (∀ w', Below w1.heap.size w1 w' → w'.cell? ⟨w.heap.size, 0, none⟩ = some (.int .i64 8) ∧ w'.cell? ⟨w.heap.size, 1, none⟩ = some (.int .i64 p) ∧ w'.cell? ⟨w.heap.size, 2, none⟩ = some (.int .i64 t) ∧ w'.cell? ⟨w.heap.size, 3, none⟩ = some (.int .i64 n) ∧ w'.cell? ⟨w.heap.size, 4, none⟩ = some (.int .i64 a) ∧ w'.cell? ⟨w.heap.size, 5, none⟩ = some (.int .i64 m) ∧ w'.cell? ⟨w.heap.size, 6, none⟩ = some (.string u) ∧ w'.cell? ⟨w.heap.size, 7, none⟩ = some (.string v)) := fun w' hb => ⟨cell_below hb c0, cell_below hb c1, cell_below hb c2, cell_below hb c3, cell_below hb c4, cell_below hb c5, cell_below hb c6, cell_below hb c7⟩
  have HB1 := Lib.hid hb1
  have HD1 := Lib.hid (HD.out.below hb1)
  have hck := rcheck_any ⟨8, p, t, n, a, m, u, v⟩ w1
  rw [rcheck_eq, HCK.out] at hck
  have HK : Hid (Calls Tryd.prog 59 #[.agg #[.int .i64 8, .int .i64 p, .int .i64 t, .int .i64 n, .int .i64 a, .int .i64 m, .string u, .string v]] w1 fun e w' => e = .returned (.int .i64 0) ∧ Below w1.heap.size w1 w') := hck
  clear hck hbl hb1
  have hr1 := num_range _ HCK.out 1 (by decide)
  simp only [OpR.num, List.getD_cons_zero, List.getD_cons_succ] at hr1
  have HI1 : Hid (∀ w', Below w1.heap.size w1 w' → Calls Tryd.prog 72 #[.int .i64 p] w' fun e w'' => e = .returned (.string ⟨(Lib.itoa p).toArray⟩) ∧ Below w'.heap.size w' w'') := fun w' hb => itoa_any p (by omega) (by omega) w' (HD1.out.below hb)
  have ho1 : (⟨(Lib.itoa p).toArray⟩ : ByteArray).size ≤ 22 := by
    have := Lib.itoa_length_le p (by omega) (by omega)
    show (Lib.itoa p).length ≤ 22
    omega
  have hr3 := num_range _ HCK.out 3 (by decide)
  simp only [OpR.num, List.getD_cons_zero, List.getD_cons_succ] at hr3
  have HI3 : Hid (∀ w', Below w1.heap.size w1 w' → Calls Tryd.prog 72 #[.int .i64 n] w' fun e w'' => e = .returned (.string ⟨(Lib.itoa n).toArray⟩) ∧ Below w'.heap.size w' w'') := fun w' hb => itoa_any n (by omega) (by omega) w' (HD1.out.below hb)
  have ho3 : (⟨(Lib.itoa n).toArray⟩ : ByteArray).size ≤ 22 := by
    have := Lib.itoa_length_le n (by omega) (by omega)
    show (Lib.itoa n).length ≤ 22
    omega
  obtain ⟨o1, eo1⟩ : ∃ o : ByteArray, ⟨(Lib.itoa p).toArray⟩ = o := ⟨_, rfl⟩
  rw [eo1] at HI1 ho1
  have HEO1 := Lib.hid eo1
  obtain ⟨o3, eo3⟩ : ∃ o : ByteArray, ⟨(Lib.itoa n).toArray⟩ = o := ⟨_, rfl⟩
  rw [eo3] at HI3 ho3
  have HEO3 := Lib.hid eo3
  obtain ⟨T0, hT0⟩ : ∃ T : ByteArray, (⟨#[102, 117, 115, 101]⟩ : ByteArray) ++ ⟨#[32]⟩ ++ o1 = T := ⟨_, rfl⟩
  have HT0 := Lib.hid hT0
  have hz0 : T0.size ≤ 40 := by rw [← hT0, ByteArray.size_append, ByteArray.size_append]; show 4 + 1 + o1.size ≤ 40; omega
  have ha0 : ¬ 9223372036854775807 < 5 + o1.size := by omega
  obtain ⟨s3, hs3⟩ : ∃ T : ByteArray, (⟨#[32]⟩ : ByteArray) ++ o3 = T := ⟨_, rfl⟩
  have hy3 : s3.size ≤ 23 := by rw [← hs3]; exact sp_size _ _ ho3
  obtain ⟨T1, hT1⟩ : ∃ T : ByteArray, T0 ++ s3 = T := ⟨_, rfl⟩
  have hz1 : T1.size ≤ 63 := by rw [← hT1, ByteArray.size_append]; omega
  have hb3 : ¬ 9223372036854775807 < 1 + o3.size := by omega
  have ha1 : ¬ 9223372036854775807 < T0.size + s3.size := by omega
  have HFIN : Hid (T1 = S) := by
    rw [← HS.out, ← hT1, ← hT0, ← hs3, ← HEO1.out, ← HEO3.out]
    apply ByteArray.ext
    simp [lineM, numP, textP, OpR.numT, OpR.textT, OpR.num, OpR.text, wordL]
  clear hr1 eo1 ho1 hr3 eo3 ho3 hz0 hz1 hy3 HD HD1 HCK
  go_enter Tryd.func43, Tryd.ntmps43
  go_wp2_with fail
  refine HK.out.mono ?_
  rintro e w2 ⟨rfl, hb⟩
  obtain ⟨w3, hw3⟩ : ∃ W, w2.alloc (.cells #[.string ⟨#[112, 117, 116]⟩, .string ⟨#[100, 101, 108]⟩, .string ⟨#[116, 105, 99, 107]⟩, .string ⟨#[100, 114, 97, 119]⟩, .string ⟨#[115, 101, 110, 100]⟩, .string ⟨#[100, 114, 111, 112]⟩, .string ⟨#[116, 119, 105, 99, 101]⟩, .string ⟨#[98, 101, 110, 100]⟩, .string ⟨#[102, 117, 115, 101]⟩, .string ⟨#[99, 114, 97, 115, 104]⟩, .string ⟨#[115, 116, 97, 114, 116]⟩, .string ⟨#[99, 111, 109, 112, 97, 99, 116]⟩, .string ⟨#[98, 117, 114, 121]⟩] 9) = W := ⟨_, rfl⟩
  have hb3 : Below w1.heap.size w1 w3 := by rw [← hw3]; exact hb.alloc hb.size _
  have hbl3 : w3.heap[w2.heap.size]? = some (.cells #[.string ⟨#[112, 117, 116]⟩, .string ⟨#[100, 101, 108]⟩, .string ⟨#[116, 105, 99, 107]⟩, .string ⟨#[100, 114, 97, 119]⟩, .string ⟨#[115, 101, 110, 100]⟩, .string ⟨#[100, 114, 111, 112]⟩, .string ⟨#[116, 119, 105, 99, 101]⟩, .string ⟨#[98, 101, 110, 100]⟩, .string ⟨#[102, 117, 115, 101]⟩, .string ⟨#[99, 114, 97, 115, 104]⟩, .string ⟨#[115, 116, 97, 114, 116]⟩, .string ⟨#[99, 111, 109, 112, 97, 99, 116]⟩, .string ⟨#[98, 117, 114, 121]⟩] 9 (0, 0)) := by rw [← hw3]; exact World.alloc_heap_new _ _
  have d : w3.cell? ⟨w2.heap.size, 8, none⟩ = some (.string ⟨#[102, 117, 115, 101]⟩) := by simp [World.cell?, hbl3]
  have HB3 := Lib.hid hb3
  have HCELL3 : Hid (∀ w', Below w3.heap.size w3 w' → Below w3.heap.size w3 w' ∧ w'.cell? ⟨w.heap.size, 1, none⟩ = some (.int .i64 p) ∧ w'.cell? ⟨w2.heap.size, 8, none⟩ = some (.string ⟨#[102, 117, 115, 101]⟩)) := fun w' hb => ⟨hb, cell_below hb (HCELL.out w3 hb3).2.1, cell_below hb d⟩
  have HP : Hid (∀ w', Below w3.heap.size w3 w' → Calls Tryd.prog 72 #[.int .i64 p] w' fun e w'' => e = .returned (.string o1) ∧ Below w3.heap.size w3 w'') := fun w' hb => (HI1.out w' (hb3.trans (hb.mono hb3.size))).mono fun e w'' h => ⟨h.1, hb.trans (h.2.mono hb.size)⟩
  obtain ⟨c0, c1, c2, c3, c4, c5, c6, c7⟩ := HCELL.out w3 hb3
  clear hb hb3 hbl3
  go_wp2_with fail
  go_cut [7] (fun t wc => t = .string T0 ∧ Hid (Below w3.heap.size w3 wc))
  case first =>
    go_region_held3 (fun w' => Below w3.heap.size w3 w' ∧ w'.cell? ⟨w.heap.size, 1, none⟩ = some (.int .i64 p) ∧ w'.cell? ⟨w2.heap.size, 8, none⟩ = some (.string ⟨#[102, 117, 115, 101]⟩))
      (first | exact HCELL3.out _ (by assumption) | exact HCELL3.out _ (Below.refl _ _).drew | exact HCELL3.out _ (Below.refl _ _) | (go_split_ands; exact HCELL3.out _ (by assumption)))
      (first | (go_at_call 72; refine (HP.out _ ?_).mono ?_; (first | assumption | exact (Below.refl _ _).drew | exact Below.refl _ _ | (go_split_ands; assumption)); rintro e w' ⟨rfl, hq⟩))
    all_goals
      go_wp2_with fail
      go_meet
      exact ⟨by first | rfl | rw [HT0.out], Lib.hid (by assumption)⟩
  case rest =>
    obtain ⟨rfl, HBY⟩ := hcut
    obtain ⟨w4, rfl⟩ : ∃ w4 : World, w4 = wc := ⟨_, rfl⟩
    have HB4 : Hid (Below w1.heap.size w1 w4) := HB3.out.trans (HBY.out.mono HB3.out.size)
    clear c0 c1 c2 c3 c4 c5 c6 c7 d
    obtain ⟨c0, c1, c2, c3, c4, c5, c6, c7⟩ := HCELL.out w4 HB4.out
    go_wp2_with fail
    refine (HI3.out w4 HB4.out).mono ?_
    rintro e w5 ⟨rfl, hb⟩
    have HB5 := Lib.hid (HB4.out.trans (hb.mono HB4.out.size))
    clear hb c0 c1 c2 c3 c4 c5 c6 c7
    obtain ⟨c0, c1, c2, c3, c4, c5, c6, c7⟩ := HCELL.out w5 HB5.out
    go_wp2_with fail
    go_ret2
    exact ⟨by rw [← HFIN.out]; rfl, HB1.out.trans (HB5.out.mono HB1.out.size)⟩


set_option maxHeartbeats 8000000 in
set_option maxRecDepth 100000 in
theorem rline_9 (p t n a m : Int) (u v : ByteArray) (HCK : Hid (checkM ⟨9, p, t, n, a, m, u, v⟩ = 0)) (w : World) (HD : Hid (Door w)) (S : ByteArray) (HS : Hid (⟨(lineM ⟨9, p, t, n, a, m, u, v⟩).toArray⟩ = S)) :
    Calls Tryd.prog 43 #[.agg #[.int .i64 9, .int .i64 p, .int .i64 t, .int .i64 n, .int .i64 a, .int .i64 m, .string u, .string v]] w fun e w' => e = .returned (.tuple #[.string S, .int .i64 0]) ∧ Below w.heap.size w w' := by
  obtain ⟨w1, hw1⟩ : ∃ W, w.alloc (.cells #[.int .i64 9, .int .i64 p, .int .i64 t, .int .i64 n, .int .i64 a, .int .i64 m, .string u, .string v] 30) = W := ⟨_, rfl⟩
  have hb1 : Below w.heap.size w w1 := by rw [← hw1]; exact (Below.refl _ _).alloc (Nat.le_refl _) _
  have hbl : w1.heap[w.heap.size]? = some (.cells #[.int .i64 9, .int .i64 p, .int .i64 t, .int .i64 n, .int .i64 a, .int .i64 m, .string u, .string v] 30 (0, 0)) := by rw [← hw1]; exact World.alloc_heap_new _ _
  have c0 : w1.cell? ⟨w.heap.size, 0, none⟩ = some (.int .i64 9) := by simp [World.cell?, hbl]
  have c1 : w1.cell? ⟨w.heap.size, 1, none⟩ = some (.int .i64 p) := by simp [World.cell?, hbl]
  have c2 : w1.cell? ⟨w.heap.size, 2, none⟩ = some (.int .i64 t) := by simp [World.cell?, hbl]
  have c3 : w1.cell? ⟨w.heap.size, 3, none⟩ = some (.int .i64 n) := by simp [World.cell?, hbl]
  have c4 : w1.cell? ⟨w.heap.size, 4, none⟩ = some (.int .i64 a) := by simp [World.cell?, hbl]
  have c5 : w1.cell? ⟨w.heap.size, 5, none⟩ = some (.int .i64 m) := by simp [World.cell?, hbl]
  have c6 : w1.cell? ⟨w.heap.size, 6, none⟩ = some (.string u) := by simp [World.cell?, hbl]
  have c7 : w1.cell? ⟨w.heap.size, 7, none⟩ = some (.string v) := by simp [World.cell?, hbl]
  have HCELL : Hid (∀ w', Below w1.heap.size w1 w' → w'.cell? ⟨w.heap.size, 0, none⟩ = some (.int .i64 9) ∧ w'.cell? ⟨w.heap.size, 1, none⟩ = some (.int .i64 p) ∧ w'.cell? ⟨w.heap.size, 2, none⟩ = some (.int .i64 t) ∧ w'.cell? ⟨w.heap.size, 3, none⟩ = some (.int .i64 n) ∧ w'.cell? ⟨w.heap.size, 4, none⟩ = some (.int .i64 a) ∧ w'.cell? ⟨w.heap.size, 5, none⟩ = some (.int .i64 m) ∧ w'.cell? ⟨w.heap.size, 6, none⟩ = some (.string u) ∧ w'.cell? ⟨w.heap.size, 7, none⟩ = some (.string v)) := fun w' hb => ⟨cell_below hb c0, cell_below hb c1, cell_below hb c2, cell_below hb c3, cell_below hb c4, cell_below hb c5, cell_below hb c6, cell_below hb c7⟩
  have HB1 := Lib.hid hb1
  have HD1 := Lib.hid (HD.out.below hb1)
  have hck := rcheck_any ⟨9, p, t, n, a, m, u, v⟩ w1
  rw [rcheck_eq, HCK.out] at hck
  have HK : Hid (Calls Tryd.prog 59 #[.agg #[.int .i64 9, .int .i64 p, .int .i64 t, .int .i64 n, .int .i64 a, .int .i64 m, .string u, .string v]] w1 fun e w' => e = .returned (.int .i64 0) ∧ Below w1.heap.size w1 w') := hck
  clear hck hbl hb1
  have hr1 := num_range _ HCK.out 1 (by decide)
  simp only [OpR.num, List.getD_cons_zero, List.getD_cons_succ] at hr1
  have HI1 : Hid (∀ w', Below w1.heap.size w1 w' → Calls Tryd.prog 72 #[.int .i64 p] w' fun e w'' => e = .returned (.string ⟨(Lib.itoa p).toArray⟩) ∧ Below w'.heap.size w' w'') := fun w' hb => itoa_any p (by omega) (by omega) w' (HD1.out.below hb)
  have ho1 : (⟨(Lib.itoa p).toArray⟩ : ByteArray).size ≤ 22 := by
    have := Lib.itoa_length_le p (by omega) (by omega)
    show (Lib.itoa p).length ≤ 22
    omega
  have hr3 := num_range _ HCK.out 3 (by decide)
  simp only [OpR.num, List.getD_cons_zero, List.getD_cons_succ] at hr3
  have HI3 : Hid (∀ w', Below w1.heap.size w1 w' → Calls Tryd.prog 72 #[.int .i64 n] w' fun e w'' => e = .returned (.string ⟨(Lib.itoa n).toArray⟩) ∧ Below w'.heap.size w' w'') := fun w' hb => itoa_any n (by omega) (by omega) w' (HD1.out.below hb)
  have ho3 : (⟨(Lib.itoa n).toArray⟩ : ByteArray).size ≤ 22 := by
    have := Lib.itoa_length_le n (by omega) (by omega)
    show (Lib.itoa n).length ≤ 22
    omega
  have hr4 := num_range _ HCK.out 4 (by decide)
  simp only [OpR.num, List.getD_cons_zero, List.getD_cons_succ] at hr4
  have HI4 : Hid (∀ w', Below w1.heap.size w1 w' → Calls Tryd.prog 72 #[.int .i64 a] w' fun e w'' => e = .returned (.string ⟨(Lib.itoa a).toArray⟩) ∧ Below w'.heap.size w' w'') := fun w' hb => itoa_any a (by omega) (by omega) w' (HD1.out.below hb)
  have ho4 : (⟨(Lib.itoa a).toArray⟩ : ByteArray).size ≤ 22 := by
    have := Lib.itoa_length_le a (by omega) (by omega)
    show (Lib.itoa a).length ≤ 22
    omega
  obtain ⟨o1, eo1⟩ : ∃ o : ByteArray, ⟨(Lib.itoa p).toArray⟩ = o := ⟨_, rfl⟩
  rw [eo1] at HI1 ho1
  have HEO1 := Lib.hid eo1
  obtain ⟨o3, eo3⟩ : ∃ o : ByteArray, ⟨(Lib.itoa n).toArray⟩ = o := ⟨_, rfl⟩
  rw [eo3] at HI3 ho3
  have HEO3 := Lib.hid eo3
  obtain ⟨o4, eo4⟩ : ∃ o : ByteArray, ⟨(Lib.itoa a).toArray⟩ = o := ⟨_, rfl⟩
  rw [eo4] at HI4 ho4
  have HEO4 := Lib.hid eo4
  obtain ⟨T0, hT0⟩ : ∃ T : ByteArray, (⟨#[99, 114, 97, 115, 104]⟩ : ByteArray) ++ ⟨#[32]⟩ ++ o1 = T := ⟨_, rfl⟩
  have HT0 := Lib.hid hT0
  have hz0 : T0.size ≤ 40 := by rw [← hT0, ByteArray.size_append, ByteArray.size_append]; show 5 + 1 + o1.size ≤ 40; omega
  have ha0 : ¬ 9223372036854775807 < 6 + o1.size := by omega
  obtain ⟨s3, hs3⟩ : ∃ T : ByteArray, (⟨#[32]⟩ : ByteArray) ++ o3 = T := ⟨_, rfl⟩
  have hy3 : s3.size ≤ 23 := by rw [← hs3]; exact sp_size _ _ ho3
  obtain ⟨T1, hT1⟩ : ∃ T : ByteArray, T0 ++ s3 = T := ⟨_, rfl⟩
  have hz1 : T1.size ≤ 63 := by rw [← hT1, ByteArray.size_append]; omega
  have hb3 : ¬ 9223372036854775807 < 1 + o3.size := by omega
  have ha1 : ¬ 9223372036854775807 < T0.size + s3.size := by omega
  obtain ⟨s4, hs4⟩ : ∃ T : ByteArray, (⟨#[32]⟩ : ByteArray) ++ o4 = T := ⟨_, rfl⟩
  have hy4 : s4.size ≤ 23 := by rw [← hs4]; exact sp_size _ _ ho4
  obtain ⟨T2, hT2⟩ : ∃ T : ByteArray, T1 ++ s4 = T := ⟨_, rfl⟩
  have hz2 : T2.size ≤ 86 := by rw [← hT2, ByteArray.size_append]; omega
  have hb4 : ¬ 9223372036854775807 < 1 + o4.size := by omega
  have ha2 : ¬ 9223372036854775807 < T1.size + s4.size := by omega
  have HFIN : Hid (T2 = S) := by
    rw [← HS.out, ← hT2, ← hT1, ← hT0, ← hs3, ← hs4, ← HEO1.out, ← HEO3.out, ← HEO4.out]
    apply ByteArray.ext
    simp [lineM, numP, textP, OpR.numT, OpR.textT, OpR.num, OpR.text, wordL]
  clear hr1 eo1 ho1 hr3 eo3 ho3 hr4 eo4 ho4 hz0 hz1 hz2 hy3 hy4 HD HD1 HCK
  go_enter Tryd.func43, Tryd.ntmps43
  go_wp2_with fail
  refine HK.out.mono ?_
  rintro e w2 ⟨rfl, hb⟩
  obtain ⟨w3, hw3⟩ : ∃ W, w2.alloc (.cells #[.string ⟨#[112, 117, 116]⟩, .string ⟨#[100, 101, 108]⟩, .string ⟨#[116, 105, 99, 107]⟩, .string ⟨#[100, 114, 97, 119]⟩, .string ⟨#[115, 101, 110, 100]⟩, .string ⟨#[100, 114, 111, 112]⟩, .string ⟨#[116, 119, 105, 99, 101]⟩, .string ⟨#[98, 101, 110, 100]⟩, .string ⟨#[102, 117, 115, 101]⟩, .string ⟨#[99, 114, 97, 115, 104]⟩, .string ⟨#[115, 116, 97, 114, 116]⟩, .string ⟨#[99, 111, 109, 112, 97, 99, 116]⟩, .string ⟨#[98, 117, 114, 121]⟩] 9) = W := ⟨_, rfl⟩
  have hb3 : Below w1.heap.size w1 w3 := by rw [← hw3]; exact hb.alloc hb.size _
  have hbl3 : w3.heap[w2.heap.size]? = some (.cells #[.string ⟨#[112, 117, 116]⟩, .string ⟨#[100, 101, 108]⟩, .string ⟨#[116, 105, 99, 107]⟩, .string ⟨#[100, 114, 97, 119]⟩, .string ⟨#[115, 101, 110, 100]⟩, .string ⟨#[100, 114, 111, 112]⟩, .string ⟨#[116, 119, 105, 99, 101]⟩, .string ⟨#[98, 101, 110, 100]⟩, .string ⟨#[102, 117, 115, 101]⟩, .string ⟨#[99, 114, 97, 115, 104]⟩, .string ⟨#[115, 116, 97, 114, 116]⟩, .string ⟨#[99, 111, 109, 112, 97, 99, 116]⟩, .string ⟨#[98, 117, 114, 121]⟩] 9 (0, 0)) := by rw [← hw3]; exact World.alloc_heap_new _ _
  have d : w3.cell? ⟨w2.heap.size, 9, none⟩ = some (.string ⟨#[99, 114, 97, 115, 104]⟩) := by simp [World.cell?, hbl3]
  have HB3 := Lib.hid hb3
  have HCELL3 : Hid (∀ w', Below w3.heap.size w3 w' → Below w3.heap.size w3 w' ∧ w'.cell? ⟨w.heap.size, 1, none⟩ = some (.int .i64 p) ∧ w'.cell? ⟨w2.heap.size, 9, none⟩ = some (.string ⟨#[99, 114, 97, 115, 104]⟩)) := fun w' hb => ⟨hb, cell_below hb (HCELL.out w3 hb3).2.1, cell_below hb d⟩
  have HP : Hid (∀ w', Below w3.heap.size w3 w' → Calls Tryd.prog 72 #[.int .i64 p] w' fun e w'' => e = .returned (.string o1) ∧ Below w3.heap.size w3 w'') := fun w' hb => (HI1.out w' (hb3.trans (hb.mono hb3.size))).mono fun e w'' h => ⟨h.1, hb.trans (h.2.mono hb.size)⟩
  obtain ⟨c0, c1, c2, c3, c4, c5, c6, c7⟩ := HCELL.out w3 hb3
  clear hb hb3 hbl3
  go_wp2_with fail
  go_cut [7] (fun t wc => t = .string T0 ∧ Hid (Below w3.heap.size w3 wc))
  case first =>
    go_region_held3 (fun w' => Below w3.heap.size w3 w' ∧ w'.cell? ⟨w.heap.size, 1, none⟩ = some (.int .i64 p) ∧ w'.cell? ⟨w2.heap.size, 9, none⟩ = some (.string ⟨#[99, 114, 97, 115, 104]⟩))
      (first | exact HCELL3.out _ (by assumption) | exact HCELL3.out _ (Below.refl _ _).drew | exact HCELL3.out _ (Below.refl _ _) | (go_split_ands; exact HCELL3.out _ (by assumption)))
      (first | (go_at_call 72; refine (HP.out _ ?_).mono ?_; (first | assumption | exact (Below.refl _ _).drew | exact Below.refl _ _ | (go_split_ands; assumption)); rintro e w' ⟨rfl, hq⟩))
    all_goals
      go_wp2_with fail
      go_meet
      exact ⟨by first | rfl | rw [HT0.out], Lib.hid (by assumption)⟩
  case rest =>
    obtain ⟨rfl, HBY⟩ := hcut
    obtain ⟨w4, rfl⟩ : ∃ w4 : World, w4 = wc := ⟨_, rfl⟩
    have HB4 : Hid (Below w1.heap.size w1 w4) := HB3.out.trans (HBY.out.mono HB3.out.size)
    clear c0 c1 c2 c3 c4 c5 c6 c7 d
    obtain ⟨c0, c1, c2, c3, c4, c5, c6, c7⟩ := HCELL.out w4 HB4.out
    go_wp2_with fail
    refine (HI3.out w4 HB4.out).mono ?_
    rintro e w5 ⟨rfl, hb⟩
    have HB5 := Lib.hid (HB4.out.trans (hb.mono HB4.out.size))
    clear hb c0 c1 c2 c3 c4 c5 c6 c7
    obtain ⟨c0, c1, c2, c3, c4, c5, c6, c7⟩ := HCELL.out w5 HB5.out
    go_wp2_with fail
    refine (HI4.out w5 HB5.out).mono ?_
    rintro e w6 ⟨rfl, hb⟩
    have HB6 := Lib.hid (HB5.out.trans (hb.mono HB5.out.size))
    clear hb c0 c1 c2 c3 c4 c5 c6 c7
    obtain ⟨c0, c1, c2, c3, c4, c5, c6, c7⟩ := HCELL.out w6 HB6.out
    go_wp2_with fail
    go_ret2
    exact ⟨by rw [← HFIN.out]; rfl, HB1.out.trans (HB6.out.mono HB1.out.size)⟩


set_option maxHeartbeats 8000000 in
set_option maxRecDepth 100000 in
theorem rline_10 (p t n a m : Int) (u v : ByteArray) (HCK : Hid (checkM ⟨10, p, t, n, a, m, u, v⟩ = 0)) (w : World) (HD : Hid (Door w)) (S : ByteArray) (HS : Hid (⟨(lineM ⟨10, p, t, n, a, m, u, v⟩).toArray⟩ = S)) :
    Calls Tryd.prog 43 #[.agg #[.int .i64 10, .int .i64 p, .int .i64 t, .int .i64 n, .int .i64 a, .int .i64 m, .string u, .string v]] w fun e w' => e = .returned (.tuple #[.string S, .int .i64 0]) ∧ Below w.heap.size w w' := by
  obtain ⟨w1, hw1⟩ : ∃ W, w.alloc (.cells #[.int .i64 10, .int .i64 p, .int .i64 t, .int .i64 n, .int .i64 a, .int .i64 m, .string u, .string v] 30) = W := ⟨_, rfl⟩
  have hb1 : Below w.heap.size w w1 := by rw [← hw1]; exact (Below.refl _ _).alloc (Nat.le_refl _) _
  have hbl : w1.heap[w.heap.size]? = some (.cells #[.int .i64 10, .int .i64 p, .int .i64 t, .int .i64 n, .int .i64 a, .int .i64 m, .string u, .string v] 30 (0, 0)) := by rw [← hw1]; exact World.alloc_heap_new _ _
  have c0 : w1.cell? ⟨w.heap.size, 0, none⟩ = some (.int .i64 10) := by simp [World.cell?, hbl]
  have c1 : w1.cell? ⟨w.heap.size, 1, none⟩ = some (.int .i64 p) := by simp [World.cell?, hbl]
  have c2 : w1.cell? ⟨w.heap.size, 2, none⟩ = some (.int .i64 t) := by simp [World.cell?, hbl]
  have c3 : w1.cell? ⟨w.heap.size, 3, none⟩ = some (.int .i64 n) := by simp [World.cell?, hbl]
  have c4 : w1.cell? ⟨w.heap.size, 4, none⟩ = some (.int .i64 a) := by simp [World.cell?, hbl]
  have c5 : w1.cell? ⟨w.heap.size, 5, none⟩ = some (.int .i64 m) := by simp [World.cell?, hbl]
  have c6 : w1.cell? ⟨w.heap.size, 6, none⟩ = some (.string u) := by simp [World.cell?, hbl]
  have c7 : w1.cell? ⟨w.heap.size, 7, none⟩ = some (.string v) := by simp [World.cell?, hbl]
  have HCELL : Hid (∀ w', Below w1.heap.size w1 w' → w'.cell? ⟨w.heap.size, 0, none⟩ = some (.int .i64 10) ∧ w'.cell? ⟨w.heap.size, 1, none⟩ = some (.int .i64 p) ∧ w'.cell? ⟨w.heap.size, 2, none⟩ = some (.int .i64 t) ∧ w'.cell? ⟨w.heap.size, 3, none⟩ = some (.int .i64 n) ∧ w'.cell? ⟨w.heap.size, 4, none⟩ = some (.int .i64 a) ∧ w'.cell? ⟨w.heap.size, 5, none⟩ = some (.int .i64 m) ∧ w'.cell? ⟨w.heap.size, 6, none⟩ = some (.string u) ∧ w'.cell? ⟨w.heap.size, 7, none⟩ = some (.string v)) := fun w' hb => ⟨cell_below hb c0, cell_below hb c1, cell_below hb c2, cell_below hb c3, cell_below hb c4, cell_below hb c5, cell_below hb c6, cell_below hb c7⟩
  have HB1 := Lib.hid hb1
  have HD1 := Lib.hid (HD.out.below hb1)
  have hck := rcheck_any ⟨10, p, t, n, a, m, u, v⟩ w1
  rw [rcheck_eq, HCK.out] at hck
  have HK : Hid (Calls Tryd.prog 59 #[.agg #[.int .i64 10, .int .i64 p, .int .i64 t, .int .i64 n, .int .i64 a, .int .i64 m, .string u, .string v]] w1 fun e w' => e = .returned (.int .i64 0) ∧ Below w1.heap.size w1 w') := hck
  clear hck hbl hb1
  have hr1 := num_range _ HCK.out 1 (by decide)
  simp only [OpR.num, List.getD_cons_zero, List.getD_cons_succ] at hr1
  have HI1 : Hid (∀ w', Below w1.heap.size w1 w' → Calls Tryd.prog 72 #[.int .i64 p] w' fun e w'' => e = .returned (.string ⟨(Lib.itoa p).toArray⟩) ∧ Below w'.heap.size w' w'') := fun w' hb => itoa_any p (by omega) (by omega) w' (HD1.out.below hb)
  have ho1 : (⟨(Lib.itoa p).toArray⟩ : ByteArray).size ≤ 22 := by
    have := Lib.itoa_length_le p (by omega) (by omega)
    show (Lib.itoa p).length ≤ 22
    omega
  obtain ⟨o1, eo1⟩ : ∃ o : ByteArray, ⟨(Lib.itoa p).toArray⟩ = o := ⟨_, rfl⟩
  rw [eo1] at HI1 ho1
  have HEO1 := Lib.hid eo1
  obtain ⟨T0, hT0⟩ : ∃ T : ByteArray, (⟨#[115, 116, 97, 114, 116]⟩ : ByteArray) ++ ⟨#[32]⟩ ++ o1 = T := ⟨_, rfl⟩
  have HT0 := Lib.hid hT0
  have hz0 : T0.size ≤ 40 := by rw [← hT0, ByteArray.size_append, ByteArray.size_append]; show 5 + 1 + o1.size ≤ 40; omega
  have ha0 : ¬ 9223372036854775807 < 6 + o1.size := by omega
  have HFIN : Hid (T0 = S) := by
    rw [← HS.out, ← hT0, ← HEO1.out]
    apply ByteArray.ext
    simp [lineM, numP, textP, OpR.numT, OpR.textT, OpR.num, OpR.text, wordL]
  clear hr1 eo1 ho1 hz0  HD HD1 HCK
  go_enter Tryd.func43, Tryd.ntmps43
  go_wp2_with fail
  refine HK.out.mono ?_
  rintro e w2 ⟨rfl, hb⟩
  obtain ⟨w3, hw3⟩ : ∃ W, w2.alloc (.cells #[.string ⟨#[112, 117, 116]⟩, .string ⟨#[100, 101, 108]⟩, .string ⟨#[116, 105, 99, 107]⟩, .string ⟨#[100, 114, 97, 119]⟩, .string ⟨#[115, 101, 110, 100]⟩, .string ⟨#[100, 114, 111, 112]⟩, .string ⟨#[116, 119, 105, 99, 101]⟩, .string ⟨#[98, 101, 110, 100]⟩, .string ⟨#[102, 117, 115, 101]⟩, .string ⟨#[99, 114, 97, 115, 104]⟩, .string ⟨#[115, 116, 97, 114, 116]⟩, .string ⟨#[99, 111, 109, 112, 97, 99, 116]⟩, .string ⟨#[98, 117, 114, 121]⟩] 9) = W := ⟨_, rfl⟩
  have hb3 : Below w1.heap.size w1 w3 := by rw [← hw3]; exact hb.alloc hb.size _
  have hbl3 : w3.heap[w2.heap.size]? = some (.cells #[.string ⟨#[112, 117, 116]⟩, .string ⟨#[100, 101, 108]⟩, .string ⟨#[116, 105, 99, 107]⟩, .string ⟨#[100, 114, 97, 119]⟩, .string ⟨#[115, 101, 110, 100]⟩, .string ⟨#[100, 114, 111, 112]⟩, .string ⟨#[116, 119, 105, 99, 101]⟩, .string ⟨#[98, 101, 110, 100]⟩, .string ⟨#[102, 117, 115, 101]⟩, .string ⟨#[99, 114, 97, 115, 104]⟩, .string ⟨#[115, 116, 97, 114, 116]⟩, .string ⟨#[99, 111, 109, 112, 97, 99, 116]⟩, .string ⟨#[98, 117, 114, 121]⟩] 9 (0, 0)) := by rw [← hw3]; exact World.alloc_heap_new _ _
  have d : w3.cell? ⟨w2.heap.size, 10, none⟩ = some (.string ⟨#[115, 116, 97, 114, 116]⟩) := by simp [World.cell?, hbl3]
  have HB3 := Lib.hid hb3
  have HCELL3 : Hid (∀ w', Below w3.heap.size w3 w' → Below w3.heap.size w3 w' ∧ w'.cell? ⟨w.heap.size, 1, none⟩ = some (.int .i64 p) ∧ w'.cell? ⟨w2.heap.size, 10, none⟩ = some (.string ⟨#[115, 116, 97, 114, 116]⟩)) := fun w' hb => ⟨hb, cell_below hb (HCELL.out w3 hb3).2.1, cell_below hb d⟩
  have HP : Hid (∀ w', Below w3.heap.size w3 w' → Calls Tryd.prog 72 #[.int .i64 p] w' fun e w'' => e = .returned (.string o1) ∧ Below w3.heap.size w3 w'') := fun w' hb => (HI1.out w' (hb3.trans (hb.mono hb3.size))).mono fun e w'' h => ⟨h.1, hb.trans (h.2.mono hb.size)⟩
  obtain ⟨c0, c1, c2, c3, c4, c5, c6, c7⟩ := HCELL.out w3 hb3
  clear hb hb3 hbl3
  go_wp2_with fail
  go_cut [7] (fun t wc => t = .string T0 ∧ Hid (Below w3.heap.size w3 wc))
  case first =>
    go_region_held3 (fun w' => Below w3.heap.size w3 w' ∧ w'.cell? ⟨w.heap.size, 1, none⟩ = some (.int .i64 p) ∧ w'.cell? ⟨w2.heap.size, 10, none⟩ = some (.string ⟨#[115, 116, 97, 114, 116]⟩))
      (first | exact HCELL3.out _ (by assumption) | exact HCELL3.out _ (Below.refl _ _).drew | exact HCELL3.out _ (Below.refl _ _) | (go_split_ands; exact HCELL3.out _ (by assumption)))
      (first | (go_at_call 72; refine (HP.out _ ?_).mono ?_; (first | assumption | exact (Below.refl _ _).drew | exact Below.refl _ _ | (go_split_ands; assumption)); rintro e w' ⟨rfl, hq⟩))
    all_goals
      go_wp2_with fail
      go_meet
      exact ⟨by first | rfl | rw [HT0.out], Lib.hid (by assumption)⟩
  case rest =>
    obtain ⟨rfl, HBY⟩ := hcut
    obtain ⟨w4, rfl⟩ : ∃ w4 : World, w4 = wc := ⟨_, rfl⟩
    have HB4 : Hid (Below w1.heap.size w1 w4) := HB3.out.trans (HBY.out.mono HB3.out.size)
    clear c0 c1 c2 c3 c4 c5 c6 c7 d
    obtain ⟨c0, c1, c2, c3, c4, c5, c6, c7⟩ := HCELL.out w4 HB4.out
    go_wp2_with fail
    go_ret2
    exact ⟨by rw [← HFIN.out]; rfl, HB1.out.trans (HB4.out.mono HB1.out.size)⟩


set_option maxHeartbeats 8000000 in
set_option maxRecDepth 100000 in
theorem rline_11 (p t n a m : Int) (u v : ByteArray) (HCK : Hid (checkM ⟨11, p, t, n, a, m, u, v⟩ = 0)) (w : World) (HD : Hid (Door w)) (S : ByteArray) (HS : Hid (⟨(lineM ⟨11, p, t, n, a, m, u, v⟩).toArray⟩ = S)) :
    Calls Tryd.prog 43 #[.agg #[.int .i64 11, .int .i64 p, .int .i64 t, .int .i64 n, .int .i64 a, .int .i64 m, .string u, .string v]] w fun e w' => e = .returned (.tuple #[.string S, .int .i64 0]) ∧ Below w.heap.size w w' := by
  obtain ⟨w1, hw1⟩ : ∃ W, w.alloc (.cells #[.int .i64 11, .int .i64 p, .int .i64 t, .int .i64 n, .int .i64 a, .int .i64 m, .string u, .string v] 30) = W := ⟨_, rfl⟩
  have hb1 : Below w.heap.size w w1 := by rw [← hw1]; exact (Below.refl _ _).alloc (Nat.le_refl _) _
  have hbl : w1.heap[w.heap.size]? = some (.cells #[.int .i64 11, .int .i64 p, .int .i64 t, .int .i64 n, .int .i64 a, .int .i64 m, .string u, .string v] 30 (0, 0)) := by rw [← hw1]; exact World.alloc_heap_new _ _
  have c0 : w1.cell? ⟨w.heap.size, 0, none⟩ = some (.int .i64 11) := by simp [World.cell?, hbl]
  have c1 : w1.cell? ⟨w.heap.size, 1, none⟩ = some (.int .i64 p) := by simp [World.cell?, hbl]
  have c2 : w1.cell? ⟨w.heap.size, 2, none⟩ = some (.int .i64 t) := by simp [World.cell?, hbl]
  have c3 : w1.cell? ⟨w.heap.size, 3, none⟩ = some (.int .i64 n) := by simp [World.cell?, hbl]
  have c4 : w1.cell? ⟨w.heap.size, 4, none⟩ = some (.int .i64 a) := by simp [World.cell?, hbl]
  have c5 : w1.cell? ⟨w.heap.size, 5, none⟩ = some (.int .i64 m) := by simp [World.cell?, hbl]
  have c6 : w1.cell? ⟨w.heap.size, 6, none⟩ = some (.string u) := by simp [World.cell?, hbl]
  have c7 : w1.cell? ⟨w.heap.size, 7, none⟩ = some (.string v) := by simp [World.cell?, hbl]
  have HCELL : Hid (∀ w', Below w1.heap.size w1 w' → w'.cell? ⟨w.heap.size, 0, none⟩ = some (.int .i64 11) ∧ w'.cell? ⟨w.heap.size, 1, none⟩ = some (.int .i64 p) ∧ w'.cell? ⟨w.heap.size, 2, none⟩ = some (.int .i64 t) ∧ w'.cell? ⟨w.heap.size, 3, none⟩ = some (.int .i64 n) ∧ w'.cell? ⟨w.heap.size, 4, none⟩ = some (.int .i64 a) ∧ w'.cell? ⟨w.heap.size, 5, none⟩ = some (.int .i64 m) ∧ w'.cell? ⟨w.heap.size, 6, none⟩ = some (.string u) ∧ w'.cell? ⟨w.heap.size, 7, none⟩ = some (.string v)) := fun w' hb => ⟨cell_below hb c0, cell_below hb c1, cell_below hb c2, cell_below hb c3, cell_below hb c4, cell_below hb c5, cell_below hb c6, cell_below hb c7⟩
  have HB1 := Lib.hid hb1
  have HD1 := Lib.hid (HD.out.below hb1)
  have hck := rcheck_any ⟨11, p, t, n, a, m, u, v⟩ w1
  rw [rcheck_eq, HCK.out] at hck
  have HK : Hid (Calls Tryd.prog 59 #[.agg #[.int .i64 11, .int .i64 p, .int .i64 t, .int .i64 n, .int .i64 a, .int .i64 m, .string u, .string v]] w1 fun e w' => e = .returned (.int .i64 0) ∧ Below w1.heap.size w1 w') := hck
  clear hck hbl hb1
  have hr1 := num_range _ HCK.out 1 (by decide)
  simp only [OpR.num, List.getD_cons_zero, List.getD_cons_succ] at hr1
  have HI1 : Hid (∀ w', Below w1.heap.size w1 w' → Calls Tryd.prog 72 #[.int .i64 p] w' fun e w'' => e = .returned (.string ⟨(Lib.itoa p).toArray⟩) ∧ Below w'.heap.size w' w'') := fun w' hb => itoa_any p (by omega) (by omega) w' (HD1.out.below hb)
  have ho1 : (⟨(Lib.itoa p).toArray⟩ : ByteArray).size ≤ 22 := by
    have := Lib.itoa_length_le p (by omega) (by omega)
    show (Lib.itoa p).length ≤ 22
    omega
  obtain ⟨o1, eo1⟩ : ∃ o : ByteArray, ⟨(Lib.itoa p).toArray⟩ = o := ⟨_, rfl⟩
  rw [eo1] at HI1 ho1
  have HEO1 := Lib.hid eo1
  obtain ⟨T0, hT0⟩ : ∃ T : ByteArray, (⟨#[99, 111, 109, 112, 97, 99, 116]⟩ : ByteArray) ++ ⟨#[32]⟩ ++ o1 = T := ⟨_, rfl⟩
  have HT0 := Lib.hid hT0
  have hz0 : T0.size ≤ 40 := by rw [← hT0, ByteArray.size_append, ByteArray.size_append]; show 7 + 1 + o1.size ≤ 40; omega
  have ha0 : ¬ 9223372036854775807 < 8 + o1.size := by omega
  have HFIN : Hid (T0 = S) := by
    rw [← HS.out, ← hT0, ← HEO1.out]
    apply ByteArray.ext
    simp [lineM, numP, textP, OpR.numT, OpR.textT, OpR.num, OpR.text, wordL]
  clear hr1 eo1 ho1 hz0  HD HD1 HCK
  go_enter Tryd.func43, Tryd.ntmps43
  go_wp2_with fail
  refine HK.out.mono ?_
  rintro e w2 ⟨rfl, hb⟩
  obtain ⟨w3, hw3⟩ : ∃ W, w2.alloc (.cells #[.string ⟨#[112, 117, 116]⟩, .string ⟨#[100, 101, 108]⟩, .string ⟨#[116, 105, 99, 107]⟩, .string ⟨#[100, 114, 97, 119]⟩, .string ⟨#[115, 101, 110, 100]⟩, .string ⟨#[100, 114, 111, 112]⟩, .string ⟨#[116, 119, 105, 99, 101]⟩, .string ⟨#[98, 101, 110, 100]⟩, .string ⟨#[102, 117, 115, 101]⟩, .string ⟨#[99, 114, 97, 115, 104]⟩, .string ⟨#[115, 116, 97, 114, 116]⟩, .string ⟨#[99, 111, 109, 112, 97, 99, 116]⟩, .string ⟨#[98, 117, 114, 121]⟩] 9) = W := ⟨_, rfl⟩
  have hb3 : Below w1.heap.size w1 w3 := by rw [← hw3]; exact hb.alloc hb.size _
  have hbl3 : w3.heap[w2.heap.size]? = some (.cells #[.string ⟨#[112, 117, 116]⟩, .string ⟨#[100, 101, 108]⟩, .string ⟨#[116, 105, 99, 107]⟩, .string ⟨#[100, 114, 97, 119]⟩, .string ⟨#[115, 101, 110, 100]⟩, .string ⟨#[100, 114, 111, 112]⟩, .string ⟨#[116, 119, 105, 99, 101]⟩, .string ⟨#[98, 101, 110, 100]⟩, .string ⟨#[102, 117, 115, 101]⟩, .string ⟨#[99, 114, 97, 115, 104]⟩, .string ⟨#[115, 116, 97, 114, 116]⟩, .string ⟨#[99, 111, 109, 112, 97, 99, 116]⟩, .string ⟨#[98, 117, 114, 121]⟩] 9 (0, 0)) := by rw [← hw3]; exact World.alloc_heap_new _ _
  have d : w3.cell? ⟨w2.heap.size, 11, none⟩ = some (.string ⟨#[99, 111, 109, 112, 97, 99, 116]⟩) := by simp [World.cell?, hbl3]
  have HB3 := Lib.hid hb3
  have HCELL3 : Hid (∀ w', Below w3.heap.size w3 w' → Below w3.heap.size w3 w' ∧ w'.cell? ⟨w.heap.size, 1, none⟩ = some (.int .i64 p) ∧ w'.cell? ⟨w2.heap.size, 11, none⟩ = some (.string ⟨#[99, 111, 109, 112, 97, 99, 116]⟩)) := fun w' hb => ⟨hb, cell_below hb (HCELL.out w3 hb3).2.1, cell_below hb d⟩
  have HP : Hid (∀ w', Below w3.heap.size w3 w' → Calls Tryd.prog 72 #[.int .i64 p] w' fun e w'' => e = .returned (.string o1) ∧ Below w3.heap.size w3 w'') := fun w' hb => (HI1.out w' (hb3.trans (hb.mono hb3.size))).mono fun e w'' h => ⟨h.1, hb.trans (h.2.mono hb.size)⟩
  obtain ⟨c0, c1, c2, c3, c4, c5, c6, c7⟩ := HCELL.out w3 hb3
  clear hb hb3 hbl3
  go_wp2_with fail
  go_cut [7] (fun t wc => t = .string T0 ∧ Hid (Below w3.heap.size w3 wc))
  case first =>
    go_region_held3 (fun w' => Below w3.heap.size w3 w' ∧ w'.cell? ⟨w.heap.size, 1, none⟩ = some (.int .i64 p) ∧ w'.cell? ⟨w2.heap.size, 11, none⟩ = some (.string ⟨#[99, 111, 109, 112, 97, 99, 116]⟩))
      (first | exact HCELL3.out _ (by assumption) | exact HCELL3.out _ (Below.refl _ _).drew | exact HCELL3.out _ (Below.refl _ _) | (go_split_ands; exact HCELL3.out _ (by assumption)))
      (first | (go_at_call 72; refine (HP.out _ ?_).mono ?_; (first | assumption | exact (Below.refl _ _).drew | exact Below.refl _ _ | (go_split_ands; assumption)); rintro e w' ⟨rfl, hq⟩))
    all_goals
      go_wp2_with fail
      go_meet
      exact ⟨by first | rfl | rw [HT0.out], Lib.hid (by assumption)⟩
  case rest =>
    obtain ⟨rfl, HBY⟩ := hcut
    obtain ⟨w4, rfl⟩ : ∃ w4 : World, w4 = wc := ⟨_, rfl⟩
    have HB4 : Hid (Below w1.heap.size w1 w4) := HB3.out.trans (HBY.out.mono HB3.out.size)
    clear c0 c1 c2 c3 c4 c5 c6 c7 d
    obtain ⟨c0, c1, c2, c3, c4, c5, c6, c7⟩ := HCELL.out w4 HB4.out
    go_wp2_with fail
    go_ret2
    exact ⟨by rw [← HFIN.out]; rfl, HB1.out.trans (HB4.out.mono HB1.out.size)⟩


set_option maxHeartbeats 8000000 in
set_option maxRecDepth 100000 in
theorem rline_12 (p t n a m : Int) (u v : ByteArray) (HCK : Hid (checkM ⟨12, p, t, n, a, m, u, v⟩ = 0)) (w : World) (HD : Hid (Door w)) (S : ByteArray) (HS : Hid (⟨(lineM ⟨12, p, t, n, a, m, u, v⟩).toArray⟩ = S)) :
    Calls Tryd.prog 43 #[.agg #[.int .i64 12, .int .i64 p, .int .i64 t, .int .i64 n, .int .i64 a, .int .i64 m, .string u, .string v]] w fun e w' => e = .returned (.tuple #[.string S, .int .i64 0]) ∧ Below w.heap.size w w' := by
  obtain ⟨w1, hw1⟩ : ∃ W, w.alloc (.cells #[.int .i64 12, .int .i64 p, .int .i64 t, .int .i64 n, .int .i64 a, .int .i64 m, .string u, .string v] 30) = W := ⟨_, rfl⟩
  have hb1 : Below w.heap.size w w1 := by rw [← hw1]; exact (Below.refl _ _).alloc (Nat.le_refl _) _
  have hbl : w1.heap[w.heap.size]? = some (.cells #[.int .i64 12, .int .i64 p, .int .i64 t, .int .i64 n, .int .i64 a, .int .i64 m, .string u, .string v] 30 (0, 0)) := by rw [← hw1]; exact World.alloc_heap_new _ _
  have c0 : w1.cell? ⟨w.heap.size, 0, none⟩ = some (.int .i64 12) := by simp [World.cell?, hbl]
  have c1 : w1.cell? ⟨w.heap.size, 1, none⟩ = some (.int .i64 p) := by simp [World.cell?, hbl]
  have c2 : w1.cell? ⟨w.heap.size, 2, none⟩ = some (.int .i64 t) := by simp [World.cell?, hbl]
  have c3 : w1.cell? ⟨w.heap.size, 3, none⟩ = some (.int .i64 n) := by simp [World.cell?, hbl]
  have c4 : w1.cell? ⟨w.heap.size, 4, none⟩ = some (.int .i64 a) := by simp [World.cell?, hbl]
  have c5 : w1.cell? ⟨w.heap.size, 5, none⟩ = some (.int .i64 m) := by simp [World.cell?, hbl]
  have c6 : w1.cell? ⟨w.heap.size, 6, none⟩ = some (.string u) := by simp [World.cell?, hbl]
  have c7 : w1.cell? ⟨w.heap.size, 7, none⟩ = some (.string v) := by simp [World.cell?, hbl]
  have HCELL : Hid (∀ w', Below w1.heap.size w1 w' → w'.cell? ⟨w.heap.size, 0, none⟩ = some (.int .i64 12) ∧ w'.cell? ⟨w.heap.size, 1, none⟩ = some (.int .i64 p) ∧ w'.cell? ⟨w.heap.size, 2, none⟩ = some (.int .i64 t) ∧ w'.cell? ⟨w.heap.size, 3, none⟩ = some (.int .i64 n) ∧ w'.cell? ⟨w.heap.size, 4, none⟩ = some (.int .i64 a) ∧ w'.cell? ⟨w.heap.size, 5, none⟩ = some (.int .i64 m) ∧ w'.cell? ⟨w.heap.size, 6, none⟩ = some (.string u) ∧ w'.cell? ⟨w.heap.size, 7, none⟩ = some (.string v)) := fun w' hb => ⟨cell_below hb c0, cell_below hb c1, cell_below hb c2, cell_below hb c3, cell_below hb c4, cell_below hb c5, cell_below hb c6, cell_below hb c7⟩
  have HB1 := Lib.hid hb1
  have HD1 := Lib.hid (HD.out.below hb1)
  have hck := rcheck_any ⟨12, p, t, n, a, m, u, v⟩ w1
  rw [rcheck_eq, HCK.out] at hck
  have HK : Hid (Calls Tryd.prog 59 #[.agg #[.int .i64 12, .int .i64 p, .int .i64 t, .int .i64 n, .int .i64 a, .int .i64 m, .string u, .string v]] w1 fun e w' => e = .returned (.int .i64 0) ∧ Below w1.heap.size w1 w') := hck
  clear hck hbl hb1
  have hr1 := num_range _ HCK.out 1 (by decide)
  simp only [OpR.num, List.getD_cons_zero, List.getD_cons_succ] at hr1
  have HI1 : Hid (∀ w', Below w1.heap.size w1 w' → Calls Tryd.prog 72 #[.int .i64 p] w' fun e w'' => e = .returned (.string ⟨(Lib.itoa p).toArray⟩) ∧ Below w'.heap.size w' w'') := fun w' hb => itoa_any p (by omega) (by omega) w' (HD1.out.below hb)
  have ho1 : (⟨(Lib.itoa p).toArray⟩ : ByteArray).size ≤ 22 := by
    have := Lib.itoa_length_le p (by omega) (by omega)
    show (Lib.itoa p).length ≤ 22
    omega
  obtain ⟨o1, eo1⟩ : ∃ o : ByteArray, ⟨(Lib.itoa p).toArray⟩ = o := ⟨_, rfl⟩
  rw [eo1] at HI1 ho1
  have HEO1 := Lib.hid eo1
  obtain ⟨T0, hT0⟩ : ∃ T : ByteArray, (⟨#[98, 117, 114, 121]⟩ : ByteArray) ++ ⟨#[32]⟩ ++ o1 = T := ⟨_, rfl⟩
  have HT0 := Lib.hid hT0
  have hz0 : T0.size ≤ 40 := by rw [← hT0, ByteArray.size_append, ByteArray.size_append]; show 4 + 1 + o1.size ≤ 40; omega
  have ha0 : ¬ 9223372036854775807 < 5 + o1.size := by omega
  have HFIN : Hid (T0 = S) := by
    rw [← HS.out, ← hT0, ← HEO1.out]
    apply ByteArray.ext
    simp [lineM, numP, textP, OpR.numT, OpR.textT, OpR.num, OpR.text, wordL]
  clear hr1 eo1 ho1 hz0  HD HD1 HCK
  go_enter Tryd.func43, Tryd.ntmps43
  go_wp2_with fail
  refine HK.out.mono ?_
  rintro e w2 ⟨rfl, hb⟩
  obtain ⟨w3, hw3⟩ : ∃ W, w2.alloc (.cells #[.string ⟨#[112, 117, 116]⟩, .string ⟨#[100, 101, 108]⟩, .string ⟨#[116, 105, 99, 107]⟩, .string ⟨#[100, 114, 97, 119]⟩, .string ⟨#[115, 101, 110, 100]⟩, .string ⟨#[100, 114, 111, 112]⟩, .string ⟨#[116, 119, 105, 99, 101]⟩, .string ⟨#[98, 101, 110, 100]⟩, .string ⟨#[102, 117, 115, 101]⟩, .string ⟨#[99, 114, 97, 115, 104]⟩, .string ⟨#[115, 116, 97, 114, 116]⟩, .string ⟨#[99, 111, 109, 112, 97, 99, 116]⟩, .string ⟨#[98, 117, 114, 121]⟩] 9) = W := ⟨_, rfl⟩
  have hb3 : Below w1.heap.size w1 w3 := by rw [← hw3]; exact hb.alloc hb.size _
  have hbl3 : w3.heap[w2.heap.size]? = some (.cells #[.string ⟨#[112, 117, 116]⟩, .string ⟨#[100, 101, 108]⟩, .string ⟨#[116, 105, 99, 107]⟩, .string ⟨#[100, 114, 97, 119]⟩, .string ⟨#[115, 101, 110, 100]⟩, .string ⟨#[100, 114, 111, 112]⟩, .string ⟨#[116, 119, 105, 99, 101]⟩, .string ⟨#[98, 101, 110, 100]⟩, .string ⟨#[102, 117, 115, 101]⟩, .string ⟨#[99, 114, 97, 115, 104]⟩, .string ⟨#[115, 116, 97, 114, 116]⟩, .string ⟨#[99, 111, 109, 112, 97, 99, 116]⟩, .string ⟨#[98, 117, 114, 121]⟩] 9 (0, 0)) := by rw [← hw3]; exact World.alloc_heap_new _ _
  have d : w3.cell? ⟨w2.heap.size, 12, none⟩ = some (.string ⟨#[98, 117, 114, 121]⟩) := by simp [World.cell?, hbl3]
  have HB3 := Lib.hid hb3
  have HCELL3 : Hid (∀ w', Below w3.heap.size w3 w' → Below w3.heap.size w3 w' ∧ w'.cell? ⟨w.heap.size, 1, none⟩ = some (.int .i64 p) ∧ w'.cell? ⟨w2.heap.size, 12, none⟩ = some (.string ⟨#[98, 117, 114, 121]⟩)) := fun w' hb => ⟨hb, cell_below hb (HCELL.out w3 hb3).2.1, cell_below hb d⟩
  have HP : Hid (∀ w', Below w3.heap.size w3 w' → Calls Tryd.prog 72 #[.int .i64 p] w' fun e w'' => e = .returned (.string o1) ∧ Below w3.heap.size w3 w'') := fun w' hb => (HI1.out w' (hb3.trans (hb.mono hb3.size))).mono fun e w'' h => ⟨h.1, hb.trans (h.2.mono hb.size)⟩
  obtain ⟨c0, c1, c2, c3, c4, c5, c6, c7⟩ := HCELL.out w3 hb3
  clear hb hb3 hbl3
  go_wp2_with fail
  go_cut [7] (fun t wc => t = .string T0 ∧ Hid (Below w3.heap.size w3 wc))
  case first =>
    go_region_held3 (fun w' => Below w3.heap.size w3 w' ∧ w'.cell? ⟨w.heap.size, 1, none⟩ = some (.int .i64 p) ∧ w'.cell? ⟨w2.heap.size, 12, none⟩ = some (.string ⟨#[98, 117, 114, 121]⟩))
      (first | exact HCELL3.out _ (by assumption) | exact HCELL3.out _ (Below.refl _ _).drew | exact HCELL3.out _ (Below.refl _ _) | (go_split_ands; exact HCELL3.out _ (by assumption)))
      (first | (go_at_call 72; refine (HP.out _ ?_).mono ?_; (first | assumption | exact (Below.refl _ _).drew | exact Below.refl _ _ | (go_split_ands; assumption)); rintro e w' ⟨rfl, hq⟩))
    all_goals
      go_wp2_with fail
      go_meet
      exact ⟨by first | rfl | rw [HT0.out], Lib.hid (by assumption)⟩
  case rest =>
    obtain ⟨rfl, HBY⟩ := hcut
    obtain ⟨w4, rfl⟩ : ∃ w4 : World, w4 = wc := ⟨_, rfl⟩
    have HB4 : Hid (Below w1.heap.size w1 w4) := HB3.out.trans (HBY.out.mono HB3.out.size)
    clear c0 c1 c2 c3 c4 c5 c6 c7 d
    obtain ⟨c0, c1, c2, c3, c4, c5, c6, c7⟩ := HCELL.out w4 HB4.out
    go_wp2_with fail
    go_ret2
    exact ⟨by rw [← HFIN.out]; rfl, HB1.out.trans (HB4.out.mono HB1.out.size)⟩


set_option maxHeartbeats 4000000 in
set_option maxRecDepth 100000 in
theorem rline_any (x : OpR) (w : World) (hd : Door w) :
    Calls Tryd.prog 43 #[.agg x.cells] w fun e w' => e = .returned (.tuple #[.string ⟨(lineT x).toArray⟩, .int .i64 (checkM x)]) ∧ Below w.heap.size w w' := by
  obtain ⟨C, hC⟩ : ∃ C, checkM x = C := ⟨_, rfl⟩
  by_cases h0 : C = 0
  · subst h0
    have hT : lineT x = lineM x := by unfold lineT; rw [if_pos hC]
    have hz := check_zero x hC
    rw [hT, hC]
    clear hT
    obtain ⟨k, p, t, n, a, m, u, v⟩ := x
    have h13 := thirteen hz.1.1 hz.1.2
    simp only at h13
    rcases h13 with rfl | rfl | rfl | rfl | rfl | rfl | rfl | rfl | rfl | rfl | rfl | rfl | rfl
    · exact rline_0 p t n a m u v hC w hd _ rfl
    · exact rline_1 p t n a m u v hC w hd _ rfl
    · exact rline_2 p t n a m u v hC w hd _ rfl
    · exact rline_3 p t n a m u v hC w hd _ rfl
    · exact rline_4 p t n a m u v hC w hd _ rfl
    · exact rline_5 p t n a m u v hC w hd _ rfl
    · exact rline_6 p t n a m u v hC w hd _ rfl
    · exact rline_7 p t n a m u v hC w hd _ rfl
    · exact rline_8 p t n a m u v hC w hd _ rfl
    · exact rline_9 p t n a m u v hC w hd _ rfl
    · exact rline_10 p t n a m u v hC w hd _ rfl
    · exact rline_11 p t n a m u v hC w hd _ rfl
    · exact rline_12 p t n a m u v hC w hd _ rfl
  · have HT : Hid (lineT x = []) := by unfold lineT; rw [if_neg (by rw [hC]; exact h0)]; rfl
    have hck := fun w' => rcheck_any x w'
    rw [rcheck_eq, hC] at hck
    rw [hC, HT.out]
    obtain ⟨k, p, t, n, a, m, u, v⟩ := x
    obtain ⟨w1, hw1⟩ : ∃ W, w.alloc (.cells #[.int .i64 k, .int .i64 p, .int .i64 t, .int .i64 n, .int .i64 a, .int .i64 m, .string u, .string v] 30) = W := ⟨_, rfl⟩
    have hb1 : Below w.heap.size w w1 := by rw [← hw1]; exact (Below.refl _ _).alloc (Nat.le_refl _) _
    have hbl : w1.heap[w.heap.size]? = some (.cells #[.int .i64 k, .int .i64 p, .int .i64 t, .int .i64 n, .int .i64 a, .int .i64 m, .string u, .string v] 30 (0, 0)) := by rw [← hw1]; exact World.alloc_heap_new _ _
    have c0 : w1.cell? ⟨w.heap.size, 0, none⟩ = some (.int .i64 k) := by simp [World.cell?, hbl]
    have c1 : w1.cell? ⟨w.heap.size, 1, none⟩ = some (.int .i64 p) := by simp [World.cell?, hbl]
    have c2 : w1.cell? ⟨w.heap.size, 2, none⟩ = some (.int .i64 t) := by simp [World.cell?, hbl]
    have c3 : w1.cell? ⟨w.heap.size, 3, none⟩ = some (.int .i64 n) := by simp [World.cell?, hbl]
    have c4 : w1.cell? ⟨w.heap.size, 4, none⟩ = some (.int .i64 a) := by simp [World.cell?, hbl]
    have c5 : w1.cell? ⟨w.heap.size, 5, none⟩ = some (.int .i64 m) := by simp [World.cell?, hbl]
    have c6 : w1.cell? ⟨w.heap.size, 6, none⟩ = some (.string u) := by simp [World.cell?, hbl]
    have c7 : w1.cell? ⟨w.heap.size, 7, none⟩ = some (.string v) := by simp [World.cell?, hbl]
    have HK : Hid (Calls Tryd.prog 59 #[.agg #[.int .i64 k, .int .i64 p, .int .i64 t, .int .i64 n, .int .i64 a, .int .i64 m, .string u, .string v]] w1 fun e w' => e = .returned (.int .i64 C) ∧ Below w1.heap.size w1 w') := hck w1
    have HB1 := Lib.hid hb1
    clear hck hbl hb1 hC hd
    show Calls Tryd.prog 43 #[.agg #[.int .i64 k, .int .i64 p, .int .i64 t, .int .i64 n, .int .i64 a, .int .i64 m, .string u, .string v]] w _
    go_enter Tryd.func43, Tryd.ntmps43
    go_wp2_with fail
    refine HK.out.mono ?_
    rintro e w' ⟨rfl, hb⟩
    have HB2 := Lib.hid (HB1.out.trans (hb.mono HB1.out.size))
    clear hb
    go_wp2_with fail
    go_ret2
    exact ⟨rfl, HB2.out⟩
end Go.Proofs.YtmeneoanmfpecaaDoor
