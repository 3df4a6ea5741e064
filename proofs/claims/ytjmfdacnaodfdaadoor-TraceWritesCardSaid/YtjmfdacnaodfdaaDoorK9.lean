/- the law TraceWrites: its walk. Printed by mktwrites.py. -/
import Derived.StillTailTactics
import Derived.Deep.Cut
import Derived.Deep.DeepCutAuto
import Derived.Deep.RegionHeld3
import Derived.Test.YtjmfdacnaodfdaaDoorK8
namespace Go.Proofs.YtjmfdacnaodfdaaDoor
set_option linter.unusedVariables false
set_option linter.unusedSimpArgs false
open Go.RowKit

set_option maxHeartbeats 8000000 in
set_option maxRecDepth 100000 in
theorem traceWrites_any (A : Option Addr) (c : Nat) (l : List EvR) (hz : ∀ x ∈ l, x.op.u.size ≤ 1000000000000000 ∧ x.op.v.size ≤ 1000000000000000) (hl : l.length ≤ 1000000000000000) (w : World) (hd : Flds w) (h0 : 0 < w.heap.size) (ha : EvsAt w A l) :
    Calls Tryd.prog 3 #[.slice A l.length c] w fun e w' => e = .returned (.bool true) ∧ Below w.heap.size w w' := by
  have HA : Hid (∀ w', Below w.heap.size w w' → Calls Tryd.prog 7 #[] w' fun e w'' => e = .returned (.bool true) ∧ Below w.heap.size w w'') := Lib.hid fun w' hb => (awake40_any w' (hd.below hb) (by have := hb.size; omega)).mono fun e w'' h => ⟨h.1, hb.trans (h.2.mono hb.size)⟩
  have HG := Lib.hid (great40_any A c l hz hl w ha)
  have HT : Hid (Small40 l → ∀ w', Below w.heap.size w w' → Calls Tryd.prog 8 #[.slice A l.length c] w' fun e w'' => e = .returned (.tuple #[.string (bs (traceB l).1), .int .i64 (traceB l).2]) ∧ Below w.heap.size w w'') :=
    Lib.hid fun hs w' hb => (tbytes_any A c l (Nat.le_trans hs.1 (by omega)) w' (hd.below hb) (ha.below hb)).mono fun e w'' h => ⟨h.1, hb.trans (h.2.mono hb.size)⟩
  have HR : Hid (Small40 l → ∀ w', Below w.heap.size w w' → Calls Tryd.prog 9 #[.slice A l.length c] w' fun e w'' => e = .returned (.tuple #[.string (bs (traceB l).1), .int .i64 (traceB l).2]) ∧ Below w.heap.size w w'') :=
    Lib.hid fun hs w' hb => (rbytes40_any A c l (Nat.le_trans hs.1 (by omega)) (fun x hx => ⟨Nat.le_trans (hs.2 x hx).1 (by omega), Nat.le_trans (hs.2 x hx).2 (by omega)⟩) w' (hd.below hb) (ha.below hb)).mono fun e w'' h => ⟨h.1, hb.trans (h.2.mono hb.size)⟩
  obtain ⟨T, hT⟩ : ∃ T, bs (traceB l).1 = T := ⟨_, rfl⟩
  obtain ⟨F, hF⟩ : ∃ F, (traceB l).2 = F := ⟨_, rfl⟩
  rw [hT, hF] at HT HR
  cases l with
  | nil =>
    simp only [List.length_nil] at HG HT HR ⊢
    clear hd ha hT hF hz hl
    go_enter Tryd.func3, Tryd.ntmps3
    go_wp2_with fail
    refine HG.out.mono ?_
    rintro e w1 ⟨g, rfl, hg, hb⟩
    have HB1 := Lib.hid hb
    clear hb
    cases g with
    | true =>
      clear hg
      go_wp2_with fail
      refine (HA.out w1 HB1.out).mono ?_
      rintro e w2 ⟨rfl, hb⟩
      have HB2 := Lib.hid hb
      clear hb
      go_wp2_with fail
      go_ret
      exact ⟨rfl, HB2.out⟩
    | false =>
      have HSM := Lib.hid (hg rfl)
      clear hg
      go_wp2_with fail
      refine (HT.out HSM.out w1 HB1.out).mono ?_
      rintro e w2 ⟨rfl, hb⟩
      have HB2 := Lib.hid hb
      clear hb
      go_wp2_with fail
      refine (HR.out HSM.out w2 HB2.out).mono ?_
      rintro e w3 ⟨rfl, hb⟩
      have HB3 := Lib.hid hb
      clear hb
      go_wp2_with fail
      go_cut [2] (fun t wc => t = .bool true ∧ Hid (Below w.heap.size w wc))
      case first =>
        refine wp_region_held_drew (S := (fun w' => Below w.heap.size w w')) (by kernel_rfl) ?_ (fun hHeld => ?_)
        · (first | assumption | exact HB3.out | exact HB3.out.drew | (go_split_ands; assumption))
        refine wpAnyH_take (i := 0) (oi := _) (v := ?_) rfl (by kernel_rfl) (by kernel_rfl) (by kernel_rfl) (fun _ _ _ h => h) (Or.inl ⟨by rfl, ?_⟩) (by assumption) ?_
        rotate_left
        · intro w hSw
          try dsimp only at hSw
          go_simp
          try with_reducible rfl
        try simp only [Act.put, List.setIfInBounds_toArray, List.set_cons_zero, List.set_cons_succ, List.getElem_toArray, List.getElem_cons_zero, List.getElem_cons_succ]
        refine wpAnyH_take (i := 1) (oi := _) (v := ?_) rfl (by kernel_rfl) (by kernel_rfl) (by kernel_rfl) (fun _ _ _ h => h) (Or.inl ⟨by rfl, ?_⟩) (by assumption) ?_
        rotate_left
        · intro w hSw
          try dsimp only at hSw
          go_simp
          try with_reducible rfl
        try simp only [Act.put, List.setIfInBounds_toArray, List.set_cons_zero, List.set_cons_succ, List.getElem_toArray, List.getElem_cons_zero, List.getElem_cons_succ]
        refine wpAnyH_take (i := 2) (oi := _) (v := ?_) rfl (by kernel_rfl) (by kernel_rfl) (by kernel_rfl) (fun _ _ _ h => h) (Or.inl ⟨by rfl, ?_⟩) (by assumption) ?_
        rotate_left
        · intro w hSw
          try dsimp only at hSw
          go_simp
          try with_reducible rfl
        try simp only [Act.put, List.setIfInBounds_toArray, List.set_cons_zero, List.set_cons_succ, List.getElem_toArray, List.getElem_cons_zero, List.getElem_cons_succ]
        refine wpAnyH_take (i := 3) (oi := _) (v := ?_) rfl (by kernel_rfl) (by kernel_rfl) (by kernel_rfl) (fun _ _ _ h => h) (Or.inl ⟨by rfl, ?_⟩) (by assumption) ?_
        rotate_left
        · intro w hSw
          try dsimp only at hSw
          go_simp
          try with_reducible rfl
        try simp only [Act.put, List.setIfInBounds_toArray, List.set_cons_zero, List.set_cons_succ, List.getElem_toArray, List.getElem_cons_zero, List.getElem_cons_succ]
        refine wpAnyH_take (i := 4) (oi := _) (v := ?_) rfl (by kernel_rfl) (by kernel_rfl) (by kernel_rfl) (fun _ _ _ h => h) (Or.inl ⟨by rfl, ?_⟩) (by assumption) ?_
        rotate_left
        · intro w hSw
          try dsimp only at hSw
          go_simp
          try with_reducible rfl
        try simp only [Act.put, List.setIfInBounds_toArray, List.set_cons_zero, List.set_cons_succ, List.getElem_toArray, List.getElem_cons_zero, List.getElem_cons_succ]
        refine wpAnyH_take (i := 5) (oi := _) (v := ?_) rfl (by kernel_rfl) (by kernel_rfl) (by kernel_rfl) (fun _ _ _ h => h) (Or.inl ⟨by rfl, ?_⟩) (by assumption) ?_
        rotate_left
        · intro w hSw
          try dsimp only at hSw
          go_simp
          try with_reducible rfl
        try simp only [Act.put, List.setIfInBounds_toArray, List.set_cons_zero, List.set_cons_succ, List.getElem_toArray, List.getElem_cons_zero, List.getElem_cons_succ]
        refine wpAnyH_take (i := 6) (oi := _) (v := ?_) rfl (by kernel_rfl) (by kernel_rfl) (by kernel_rfl) (fun _ _ _ h => h) (Or.inl ⟨by rfl, ?_⟩) (by assumption) ?_
        rotate_left
        · intro w hSw
          try dsimp only at hSw
          go_simp
          try with_reducible rfl
        try simp only [Act.put, List.setIfInBounds_toArray, List.set_cons_zero, List.set_cons_succ, List.getElem_toArray, List.getElem_cons_zero, List.getElem_cons_succ]
        refine wpAnyH_take (i := 7) (oi := _) (v := ?_) rfl (by kernel_rfl) (by kernel_rfl) (by kernel_rfl) (fun _ _ _ h => h) (Or.inl ⟨by rfl, ?_⟩) (by assumption) ?_
        rotate_left
        · intro w hSw
          try dsimp only at hSw
          go_simp
          try with_reducible rfl
        try simp only [Act.put, List.setIfInBounds_toArray, List.set_cons_zero, List.set_cons_succ, List.getElem_toArray, List.getElem_cons_zero, List.getElem_cons_succ]
        refine wpAnyH_take (i := 8) (oi := _) (v := ?_) rfl (by kernel_rfl) (by kernel_rfl) (by kernel_rfl) (fun _ _ _ h => h) (Or.inl ⟨by rfl, ?_⟩) (by assumption) ?_
        rotate_left
        · intro w hSw
          try dsimp only at hSw
          go_simp
          try with_reducible rfl
        try simp only [Act.put, List.setIfInBounds_toArray, List.set_cons_zero, List.set_cons_succ, List.getElem_toArray, List.getElem_cons_zero, List.getElem_cons_succ]
        refine wpAnyH_take (i := 9) (oi := _) (v := ?_) rfl (by kernel_rfl) (by kernel_rfl) (by kernel_rfl) (fun _ _ _ h => h) (Or.inl ⟨by rfl, ?_⟩) (by assumption) ?_
        rotate_left
        · intro w hSw
          try dsimp only at hSw
          go_simp
          try with_reducible rfl
        try simp only [Act.put, List.setIfInBounds_toArray, List.set_cons_zero, List.set_cons_succ, List.getElem_toArray, List.getElem_cons_zero, List.getElem_cons_succ]
        refine wpAnyH_take (i := 10) (oi := _) (v := ?_) rfl (by kernel_rfl) (by kernel_rfl) (by kernel_rfl) (fun _ _ _ h => h) (Or.inl ⟨by rfl, ?_⟩) (by assumption) ?_
        rotate_left
        · intro w hSw
          try dsimp only at hSw
          go_simp
          try with_reducible rfl
        try simp only [Act.put, List.setIfInBounds_toArray, List.set_cons_zero, List.set_cons_succ, List.getElem_toArray, List.getElem_cons_zero, List.getElem_cons_succ]
        refine wpAnyH_take (i := 11) (oi := _) (v := ?_) rfl (by kernel_rfl) (by kernel_rfl) (by kernel_rfl) (fun _ _ _ h => h) (Or.inl ⟨by rfl, ?_⟩) (by assumption) ?_
        rotate_left
        · intro w hSw
          try dsimp only at hSw
          go_simp
          try with_reducible rfl
        try simp only [Act.put, List.setIfInBounds_toArray, List.set_cons_zero, List.set_cons_succ, List.getElem_toArray, List.getElem_cons_zero, List.getElem_cons_succ]
        refine wpAnyH_take (i := 12) (oi := _) (v := ?_) rfl (by kernel_rfl) (by kernel_rfl) (by kernel_rfl) (fun _ _ _ h => h) (Or.inl ⟨by rfl, ?_⟩) (by assumption) ?_
        rotate_left
        · intro w hSw
          try dsimp only at hSw
          go_simp
          try with_reducible rfl
        try simp only [Act.put, List.setIfInBounds_toArray, List.set_cons_zero, List.set_cons_succ, List.getElem_toArray, List.getElem_cons_zero, List.getElem_cons_succ]
        refine wpAnyH_take (i := 13) (oi := _) (v := undef) rfl (by kernel_rfl) (by kernel_rfl) (by kernel_rfl) (fun _ _ _ h => h) (Or.inr ⟨by rfl, rfl⟩) (by assumption) ?_
        try simp only [Act.put, List.setIfInBounds_toArray, List.set_cons_zero, List.set_cons_succ, List.getElem_toArray, List.getElem_cons_zero, List.getElem_cons_succ]
        refine wpAnyH_take (i := 14) (oi := _) (v := undef) rfl (by kernel_rfl) (by kernel_rfl) (by kernel_rfl) (fun _ _ _ h => h) (Or.inr ⟨by rfl, rfl⟩) (by assumption) ?_
        try simp only [Act.put, List.setIfInBounds_toArray, List.set_cons_zero, List.set_cons_succ, List.getElem_toArray, List.getElem_cons_zero, List.getElem_cons_succ]
        refine wpAnyH_take (i := 15) (oi := _) (v := undef) rfl (by kernel_rfl) (by kernel_rfl) (by kernel_rfl) (fun _ _ _ h => h) (Or.inr ⟨by rfl, rfl⟩) (by assumption) ?_
        try simp only [Act.put, List.setIfInBounds_toArray, List.set_cons_zero, List.set_cons_succ, List.getElem_toArray, List.getElem_cons_zero, List.getElem_cons_succ]
        refine wpAnyH_take (i := 17) (oi := _) (v := undef) rfl (by kernel_rfl) (by kernel_rfl) (by kernel_rfl) (fun _ _ _ h => h) (Or.inr ⟨by rfl, rfl⟩) (by assumption) ?_
        try simp only [Act.put, List.setIfInBounds_toArray, List.set_cons_zero, List.set_cons_succ, List.getElem_toArray, List.getElem_cons_zero, List.getElem_cons_succ]
        refine wpAnyH_take (i := 18) (oi := _) (v := undef) rfl (by kernel_rfl) (by kernel_rfl) (by kernel_rfl) (fun _ _ _ h => h) (Or.inr ⟨by rfl, rfl⟩) (by assumption) ?_
        try simp only [Act.put, List.setIfInBounds_toArray, List.set_cons_zero, List.set_cons_succ, List.getElem_toArray, List.getElem_cons_zero, List.getElem_cons_succ]
        refine wpAnyH_take (i := 19) (oi := _) (v := undef) rfl (by kernel_rfl) (by kernel_rfl) (by kernel_rfl) (fun _ _ _ h => h) (Or.inr ⟨by rfl, rfl⟩) (by assumption) ?_
        try simp only [Act.put, List.setIfInBounds_toArray, List.set_cons_zero, List.set_cons_succ, List.getElem_toArray, List.getElem_cons_zero, List.getElem_cons_succ]
        refine wpAnyH_ready (rs := [16]) (by kernel_rfl) (by simp) ?_
        refine AllReadyH.cons (o := _) rfl (fun K hK => ?_) AllReadyH.nil
        rw [if_neg (by exact Bool.false_ne_true)]
        refine hK.out _ _ (by assumption) (fun hHeld => ?_)
        clear hK K
        try simp only [Act.put, List.setIfInBounds_toArray, List.set_cons_zero, List.set_cons_succ, List.getElem_toArray, List.getElem_cons_zero, List.getElem_cons_succ]
        refine wpAnyH_ready (rs := [20]) (by kernel_rfl) (by simp) ?_
        refine AllReadyH.cons (o := _) rfl (fun K hK => ?_) AllReadyH.nil
        rw [if_neg (by exact Bool.false_ne_true)]
        refine hK.out _ _ (by assumption) (fun hHeld => ?_)
        clear hK K
        try simp only [Act.put, List.setIfInBounds_toArray, List.set_cons_zero, List.set_cons_succ, List.getElem_toArray, List.getElem_cons_zero, List.getElem_cons_succ]
        refine wpAnyH_take (i := 21) (oi := _) (v := undef) rfl (by kernel_rfl) (by kernel_rfl) (by kernel_rfl) (fun _ _ _ h => h) (Or.inr ⟨by rfl, rfl⟩) (by assumption) ?_
        try simp only [Act.put, List.setIfInBounds_toArray, List.set_cons_zero, List.set_cons_succ, List.getElem_toArray, List.getElem_cons_zero, List.getElem_cons_succ]
        refine wpAnyH_take (i := 22) (oi := _) (v := ?_) rfl (by kernel_rfl) (by kernel_rfl) (by kernel_rfl) (fun _ _ _ h => h) (Or.inl ⟨by rfl, ?_⟩) (by assumption) ?_
        rotate_left
        · intro w hSw
          try dsimp only at hSw
          go_simp
          try with_reducible rfl
        try simp only [Act.put, List.setIfInBounds_toArray, List.set_cons_zero, List.set_cons_succ, List.getElem_toArray, List.getElem_cons_zero, List.getElem_cons_succ]
        refine wpAnyH_take (i := 23) (oi := _) (v := ?_) rfl (by kernel_rfl) (by kernel_rfl) (by kernel_rfl) (fun _ _ _ h => h) (Or.inl ⟨by rfl, ?_⟩) (by assumption) ?_
        rotate_left
        · intro w hSw
          try dsimp only at hSw
          go_simp
          try with_reducible rfl
        try simp only [Act.put, List.setIfInBounds_toArray, List.set_cons_zero, List.set_cons_succ, List.getElem_toArray, List.getElem_cons_zero, List.getElem_cons_succ]
        refine wpAnyH_take (i := 24) (oi := _) (v := ?_) rfl (by kernel_rfl) (by kernel_rfl) (by kernel_rfl) (fun _ _ _ h => h) (Or.inl ⟨by rfl, ?_⟩) (by assumption) ?_
        rotate_left
        · intro w hSw
          try dsimp only at hSw
          go_simp
          try with_reducible rfl
        try simp only [Act.put, List.setIfInBounds_toArray, List.set_cons_zero, List.set_cons_succ, List.getElem_toArray, List.getElem_cons_zero, List.getElem_cons_succ]
        refine wpAnyH_ready (rs := [25]) (by kernel_rfl) (by simp) ?_
        refine AllReadyH.cons (o := _) rfl (fun K hK => ?_) AllReadyH.nil
        go_simp
        refine (HA.out _ (by first | assumption | exact HB3.out.drew)).mono ?_
        rintro e w' ⟨rfl, hq⟩
        go_wp2_with fail
        refine hK.out _ _ ?_ (fun hHeld => ?_)
        · (first | assumption | exact HB3.out | exact HB3.out.drew | (go_split_ands; assumption))
        clear hK K
        try simp only [Act.put, List.setIfInBounds_toArray, List.set_cons_zero, List.set_cons_succ, List.getElem_toArray, List.getElem_cons_zero, List.getElem_cons_succ]
        refine wpAnyH_take (i := 26) (oi := _) (v := ?_) rfl (by kernel_rfl) (by kernel_rfl) (by kernel_rfl) (fun _ _ _ h => h) (Or.inl ⟨by rfl, ?_⟩) (by assumption) ?_
        rotate_left
        · intro w hSw
          try dsimp only at hSw
          go_simp
          try with_reducible rfl
        try simp only [Act.put, List.setIfInBounds_toArray, List.set_cons_zero, List.set_cons_succ, List.getElem_toArray, List.getElem_cons_zero, List.getElem_cons_succ]
        refine wpAnyH_take (i := 27) (oi := _) (v := ?_) rfl (by kernel_rfl) (by kernel_rfl) (by kernel_rfl) (fun _ _ _ h => h) (Or.inl ⟨by rfl, ?_⟩) (by assumption) ?_
        rotate_left
        · intro w hSw
          try dsimp only at hSw
          go_simp
          try with_reducible rfl
        try simp only [Act.put, List.setIfInBounds_toArray, List.set_cons_zero, List.set_cons_succ, List.getElem_toArray, List.getElem_cons_zero, List.getElem_cons_succ]
        refine wpAnyH_done (by kernel_rfl) ?_ _
        go_wp2_with fail
        go_meet
        exact ⟨rfl, Lib.hid (by assumption)⟩
      case rest =>
        obtain ⟨rfl, HBY⟩ := hcut
        go_wp2_with fail
        go_ret
        exact ⟨rfl, HBY.out⟩
  | cons x t =>
    obtain ⟨b, rfl, hc⟩ := ha 0 (by simp)
    obtain ⟨d0, d1, d2, d3, d4, d5, d6, d7, d8, d9, d10, d11⟩ := hc
    simp only [List.getElem_cons_zero, Nat.zero_mul, addr_zero] at d0 d1 d2 d3 d4 d5 d6 d7 d8 d9 d10 d11
    have HC : Hid (∀ w', Below w.heap.size w w' → Calls Tryd.prog 10 #[.agg x.cells] w' fun e w'' => e = .returned (.int .i64 (evM x)) ∧ Below w.heap.size w w'') := Lib.hid fun w' hb => (tcheck_any x w' (hd.below hb)).mono fun e w'' h => ⟨h.1, hb.trans (h.2.mono hb.size)⟩
    have HD : Hid (∀ w', Below w.heap.size w w' → Calls Tryd.prog 11 #[.agg x.cells] w' fun e w'' => e = .returned (.int .i64 (evM x)) ∧ Below w.heap.size w w'') := Lib.hid fun w' hb => (rcheck40_any x w' (hd.below hb)).mono fun e w'' h => ⟨h.1, hb.trans (h.2.mono hb.size)⟩
    obtain ⟨E, hE⟩ : ∃ E, evM x = E := ⟨_, rfl⟩
    rw [hE] at HC HD
    have hsl : (0 : Int) < ((x :: t).length : Int) := by simp only [List.length_cons]; omega
    have hne : (((x :: t).length : Int) == 0) = false := by simp only [beq_eq_false_iff_ne]; omega
    have hnl : 0 < (x :: t).length := by simp
    obtain ⟨L, hL⟩ : ∃ L, x :: t = L := ⟨_, rfl⟩
    rw [hL] at HG HT HR hsl hne hnl hl ⊢
    obtain ⟨at_, ⟨k, p, t', n, a', m, u, v⟩, er, dp, dc⟩ := x
    simp only at d0 d1 d2 d3 d4 d5 d6 d7 d8 d9 d10 d11
    simp only [EvR.cells] at HC HD
    have HCELL : Hid (∀ w', Below w.heap.size w w' → Below w.heap.size w w' ∧ w'.cell? b = some (.int .i64 at_) ∧ w'.cell? ⟨b.block, b.off + 1, none⟩ = some (.int .i64 k) ∧ w'.cell? ⟨b.block, b.off + 2, none⟩ = some (.int .i64 p) ∧ w'.cell? ⟨b.block, b.off + 3, none⟩ = some (.int .i64 t') ∧ w'.cell? ⟨b.block, b.off + 4, none⟩ = some (.int .i64 n) ∧ w'.cell? ⟨b.block, b.off + 5, none⟩ = some (.int .i64 a') ∧ w'.cell? ⟨b.block, b.off + 6, none⟩ = some (.int .i64 m) ∧ w'.cell? ⟨b.block, b.off + 7, none⟩ = some (.string u) ∧ w'.cell? ⟨b.block, b.off + 8, none⟩ = some (.string v) ∧ w'.cell? ⟨b.block, b.off + 9, none⟩ = some (.int .i64 er) ∧ w'.cell? ⟨b.block, b.off + 10, none⟩ = some (.int .i64 dp) ∧ w'.cell? ⟨b.block, b.off + 11, none⟩ = some (.int .i64 dc)) :=
      Lib.hid fun w' hb => ⟨hb, cell_below hb d0, cell_below hb d1, cell_below hb d2, cell_below hb d3, cell_below hb d4, cell_below hb d5, cell_below hb d6, cell_below hb d7, cell_below hb d8, cell_below hb d9, cell_below hb d10, cell_below hb d11⟩
    clear hd ha hT hF hz hE hL d0 d1 d2 d3 d4 d5 d6 d7 d8 d9 d10 d11
    obtain ⟨N, hN⟩ : ∃ N : Nat, L.length = N := ⟨_, rfl⟩
    rw [hN] at HG HT HR hsl hne hnl hl ⊢
    clear hN
    go_enter Tryd.func3, Tryd.ntmps3
    go_wp2_with fail
    refine HG.out.mono ?_
    rintro e w1 ⟨g, rfl, hg, hb⟩
    have HB1 := Lib.hid hb
    clear hb
    cases g with
    | true =>
      clear hg
      go_wp2_with fail
      refine (HA.out w1 HB1.out).mono ?_
      rintro e w2 ⟨rfl, hb⟩
      have HB2 := Lib.hid hb
      clear hb
      go_wp2_with fail
      go_ret
      exact ⟨rfl, HB2.out⟩
    | false =>
      have HSM := Lib.hid (hg rfl)
      clear hg
      go_wp2_with fail
      refine (HT.out HSM.out w1 HB1.out).mono ?_
      rintro e w2 ⟨rfl, hb⟩
      have HB2 := Lib.hid hb
      clear hb
      go_wp2_with fail
      refine (HR.out HSM.out w2 HB2.out).mono ?_
      rintro e w3 ⟨rfl, hb⟩
      have HB3 := Lib.hid hb
      clear hb
      go_wp2_with fail
      obtain ⟨_, d0, d1, d2, d3, d4, d5, d6, d7, d8, d9, d10, d11⟩ := HCELL.out w3 HB3.out
      go_cut [2] (fun t wc => t = .bool true ∧ Hid (Below w.heap.size w wc))
      case first =>
        go_region_held3 (fun w' => Below w.heap.size w w' ∧ w'.cell? b = some (.int .i64 at_) ∧ w'.cell? ⟨b.block, b.off + 1, none⟩ = some (.int .i64 k) ∧ w'.cell? ⟨b.block, b.off + 2, none⟩ = some (.int .i64 p) ∧ w'.cell? ⟨b.block, b.off + 3, none⟩ = some (.int .i64 t') ∧ w'.cell? ⟨b.block, b.off + 4, none⟩ = some (.int .i64 n) ∧ w'.cell? ⟨b.block, b.off + 5, none⟩ = some (.int .i64 a') ∧ w'.cell? ⟨b.block, b.off + 6, none⟩ = some (.int .i64 m) ∧ w'.cell? ⟨b.block, b.off + 7, none⟩ = some (.string u) ∧ w'.cell? ⟨b.block, b.off + 8, none⟩ = some (.string v) ∧ w'.cell? ⟨b.block, b.off + 9, none⟩ = some (.int .i64 er) ∧ w'.cell? ⟨b.block, b.off + 10, none⟩ = some (.int .i64 dp) ∧ w'.cell? ⟨b.block, b.off + 11, none⟩ = some (.int .i64 dc))
          (first | exact HCELL.out _ (by assumption) | exact HCELL.out _ HB3.out.drew | exact HCELL.out _ HB3.out | (go_split_ands; exact HCELL.out _ (by assumption)))
          (first | (go_at_call 10; refine (HC.out _ ?_).mono ?_; (first | assumption | exact HB3.out.drew | exact HB3.out | (go_split_ands; assumption)); rintro e w' ⟨rfl, hq⟩) | (go_at_call 11; refine (HD.out _ ?_).mono ?_; (first | assumption | exact HB3.out.drew | exact HB3.out | (go_split_ands; assumption)); rintro e w' ⟨rfl, hq⟩) | (go_at_call 7; refine (HA.out _ ?_).mono ?_; (first | assumption | exact HB3.out.drew | exact HB3.out | (go_split_ands; assumption)); rintro e w' ⟨rfl, hq⟩))
        all_goals
          go_wp2_with fail
          go_meet
          exact ⟨rfl, Lib.hid (by assumption)⟩
      case rest =>
        obtain ⟨rfl, HBY⟩ := hcut
        go_wp2_with fail
        go_ret
        exact ⟨rfl, HBY.out⟩
end Go.Proofs.YtjmfdacnaodfdaaDoor
