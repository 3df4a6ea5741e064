/- LinkOnce's walk. -/
import Derived.Deep.LoopGhost
import Derived.Test.YtnnmhpplmihidaaOnceAt
namespace Go.Proofs.Ytnnmhpplmihidaa
set_option linter.unusedVariables false
set_option linter.unusedSimpArgs false
open Go.RowKit

set_option maxHeartbeats 8000000 in
set_option maxRecDepth 100000 in
theorem linkOnce_walk (A : Option Addr) (c : Nat) (l : List ActV) (w : World) (h : ActsAt w A l) (hok : ActsOk l) (hl : l.length ≤ maxLen) :
    Calls Try.prog 8 #[.slice A l.length c] w fun e w' => e = .returned (.bool true) ∧ Below w.heap.size w w' := by
  have HG := Lib.hid (great26 A c l w h hok hl)
  have HA := Lib.hid h
  have HO := Lib.hid hok
  clear h hok hl
  obtain ⟨i0, hi, hz0, hz1, hz2⟩ := info_parts info_FV
  have HI := Lib.hid (And.intro hi (And.intro hz0 (And.intro hz1 hz2)))
  clear hi hz0 hz1 hz2
  go_enter Try.func8, Try.ntmps8
  go_wp2_with fail
  refine HG.out.mono ?_
  rintro e w' ⟨⟨b, rfl, hb⟩, rfl⟩
  have HB := Lib.hid hb
  clear hb HG
  cases b with
  | true =>
    go_wp2_with fail
    refine (awake26 w).mono ?_
    rintro e w' ⟨rfl, hb⟩
    go_wp2_with fail
    go_ret
    exact ⟨rfl, hb⟩
  | false =>
    have H80 : Hid (l.length ≤ 80) := (HB.out rfl).1
    clear HB
    go_wp2_with fail
    refine (new_net 3 (by omega) w).mono ?_
    rintro e w1 ⟨rfl, hnet, hb⟩
    have HON : Hid (OnceAt w w1 (w.heap.size + 1) w.heap.size (fun _ => []) [] [] (.slice none 0 0) (.slice none 0 0)) :=
      ⟨⟨_, _, hnet, fun k hk => by simp [Value.ownBlock] at hk, fun k hk => by simp [Value.ownBlock] at hk⟩, ⟨rfl, .inl ⟨rfl, rfl⟩⟩, ⟨rfl, .inl ⟨rfl, rfl⟩⟩, fun k hk => by simp [Value.ownBlock] at hk, hb⟩
    clear hnet hb
    go_wp2_with fail
    go_loopg [4, 5, 6, 7] l.length (fun n t4 t5 t6 t7 wr => ∃ (k : Nat) (L : Int × Int → List Fr) (sent got : List FV) (tw : Nat) (As Ag : Option Addr) (cs cg : Nat), Hid (n = l.length - k ∧ k ≤ l.length) ∧ t4 = .slice As sent.length cs ∧ t5 = .slice Ag got.length cg ∧ t6 = .int .i64 tw ∧ t7 = .int .i64 k ∧
      Hid (OnceAt w wr (w.heap.size + 1) w.heap.size L sent got (.slice As sent.length cs) (.slice Ag got.length cg)) ∧ Hid (Inv L sent got tw) ∧ Hid (sent.length ≤ k ∧ got.length ≤ k ∧ tw ≤ k))
    case atStart => exact ⟨0, _, [], [], 0, none, none, 0, 0, ⟨rfl, Nat.zero_le _⟩, rfl, rfl, rfl, rfl, HON, Inv.start, ⟨Nat.zero_le _, Nat.zero_le _, Nat.zero_le _⟩⟩
    case round =>
      obtain ⟨k, L, sent, got, tw, As, Ag, cs, cg, HK, rfl, rfl, rfl, rfl, HAT, HINV, HLE⟩ := hrel
      by_cases hlt : k < l.length
      · obtain ⟨a, rfl, hact⟩ := (HA.out.below HAT.out.below rfl) k hlt
        have hxok := HO.out l[k] (List.getElem_mem hlt)
        obtain ⟨⟨K, F, T, I, At, M, S⟩, hx⟩ : ∃ x, l[k] = x := ⟨_, rfl⟩
        rw [hx] at hact hxok
        obtain ⟨h0, h1, h2, h3, h4, h5, h6⟩ := hact
        simp only at h0 h1 h2 h3 h4 h5 h6
        have HXK := Lib.hid hxok
        have hlt' : (k : Int) < l.length := by omega
        have hk80 : (k : Int) < 1000 := by have := H80.out; omega
        have htw : (tw : Int) < 1000 := by have := HLE.out; omega
        clear hx hxok
        obtain ⟨W1, hW1⟩ : ∃ W, wr.alloc (.cells #[.int .i64 K, .int .i64 F, .int .i64 T, .int .i64 I, .int .i64 At, .int .u32 M, .string S] 50) = W := ⟨_, rfl⟩
        have hbl1 : W1.heap[wr.heap.size]? = some (.cells #[.int .i64 K, .int .i64 F, .int .i64 T, .int .i64 I, .int .i64 At, .int .u32 M, .string S] 50 (0, 0)) := by rw [← hW1]; exact World.alloc_heap_new _ _
        have hs1 : W1.heap.size = wr.heap.size + 1 := by rw [← hW1]; simp
        obtain ⟨W2, hW2⟩ : ∃ W, W1.alloc (.cells #[.int .i64 F, .int .i64 T, .string S, .string ⟨#[]⟩] 52) = W := ⟨_, rfl⟩
        have hbl2 : W2.heap[W1.heap.size]? = some (.cells #[.int .i64 F, .int .i64 T, .string S, .string ⟨#[]⟩] 52 (0, 0)) := by rw [← hW2]; exact World.alloc_heap_new _ _
        have hbl1' : W2.heap[wr.heap.size]? = some (.cells #[.int .i64 K, .int .i64 F, .int .i64 T, .int .i64 I, .int .i64 At, .int .u32 M, .string S] 50 (0, 0)) := by rw [← hW2, Below.heap_alloc _ _ _ (by omega)]; exact hbl1
        have hs2 : W2.heap.size = wr.heap.size + 2 := by rw [← hW2]; simp [hs1]
        have hb2 : Below wr.heap.size wr W2 := by rw [← hW2, ← hW1]; exact ((Below.refl _ _).alloc (Nat.le_refl _) _).alloc (by simp) _
        have a0 : W1.cell? ⟨wr.heap.size, 0, none⟩ = some (.int .i64 K) := by simp [World.cell?, hbl1]
        have a1 : W1.cell? ⟨wr.heap.size, 1, none⟩ = some (.int .i64 F) := by simp [World.cell?, hbl1]
        have a2 : W1.cell? ⟨wr.heap.size, 2, none⟩ = some (.int .i64 T) := by simp [World.cell?, hbl1]
        have a6 : W1.cell? ⟨wr.heap.size, 6, none⟩ = some (.string S) := by simp [World.cell?, hbl1]
        have b0 : W2.cell? ⟨wr.heap.size, 0, none⟩ = some (.int .i64 K) := by simp [World.cell?, hbl1']
        have b1 : W2.cell? ⟨wr.heap.size, 1, none⟩ = some (.int .i64 F) := by simp [World.cell?, hbl1']
        have b2 : W2.cell? ⟨wr.heap.size, 2, none⟩ = some (.int .i64 T) := by simp [World.cell?, hbl1']
        have b3 : W2.cell? ⟨wr.heap.size, 3, none⟩ = some (.int .i64 I) := by simp [World.cell?, hbl1']
        have b4 : W2.cell? ⟨wr.heap.size, 4, none⟩ = some (.int .i64 At) := by simp [World.cell?, hbl1']
        have b5 : W2.cell? ⟨wr.heap.size, 5, none⟩ = some (.int .u32 M) := by simp [World.cell?, hbl1']
        have b6 : W2.cell? ⟨wr.heap.size, 6, none⟩ = some (.string S) := by simp [World.cell?, hbl1']
        obtain ⟨O, m, hnet, hafter⟩ := HAT.out.after hb2
        have HNET := Lib.hid hnet
        have HAF := Lib.hid hafter
        have HB2 := Lib.hid hb2
        have HBL2 := Lib.hid hbl2
        have HS := Lib.hid (And.intro hs1 hs2)
        have c0 : (W1.alloc (.cells #[.int .i64 F, .int .i64 T, .string S, .string ⟨#[]⟩] 52)).cell? ⟨wr.heap.size, 0, none⟩ = some (.int .i64 K) := by rw [hW2]; exact b0
        have c1 : (W1.alloc (.cells #[.int .i64 F, .int .i64 T, .string S, .string ⟨#[]⟩] 52)).cell? ⟨wr.heap.size, 1, none⟩ = some (.int .i64 F) := by rw [hW2]; exact b1
        have c2 : (W1.alloc (.cells #[.int .i64 F, .int .i64 T, .string S, .string ⟨#[]⟩] 52)).cell? ⟨wr.heap.size, 2, none⟩ = some (.int .i64 T) := by rw [hW2]; exact b2
        have c3 : (W1.alloc (.cells #[.int .i64 F, .int .i64 T, .string S, .string ⟨#[]⟩] 52)).cell? ⟨wr.heap.size, 3, none⟩ = some (.int .i64 I) := by rw [hW2]; exact b3
        have c4 : (W1.alloc (.cells #[.int .i64 F, .int .i64 T, .string S, .string ⟨#[]⟩] 52)).cell? ⟨wr.heap.size, 4, none⟩ = some (.int .i64 At) := by rw [hW2]; exact b4
        have c5 : (W1.alloc (.cells #[.int .i64 F, .int .i64 T, .string S, .string ⟨#[]⟩] 52)).cell? ⟨wr.heap.size, 5, none⟩ = some (.int .u32 M) := by rw [hW2]; exact b5
        have c6 : (W1.alloc (.cells #[.int .i64 F, .int .i64 T, .string S, .string ⟨#[]⟩] 52)).cell? ⟨wr.heap.size, 6, none⟩ = some (.string S) := by rw [hW2]; exact b6
        have HW2 := Lib.hid hW2
        clear hW2
        clear hnet hafter hb2 hbl1 hbl2 hbl1' hs1 hs2
        by_cases hK0 : K = 0
        · subst hK0
          have HSE := Lib.hid (send_net HNET.out F T S (Nat.le_trans HXK.out.2 (by unfold maxLen; omega)))
          have HIN := Lib.hid (inv_send HINV.out F T S HXK.out.2)
          obtain ⟨e1, he1⟩ : ∃ e, (sendM 3 L F T S).1 = e := ⟨_, rfl⟩
          obtain ⟨L1, hL1⟩ : ∃ e, (sendM 3 L F T S).2 = e := ⟨_, rfl⟩
          rw [he1, hL1] at HSE HIN
          clear he1 hL1
          go_wp2_with fail
          rw [HW2.out]
          refine HSE.out.mono ?_
          rintro e w3 ⟨rfl, hstep⟩
          obtain ⟨hat, hkeep, _⟩ := HAF.out _ _ hstep
          have HAT3 := Lib.hid hat
          have hc : w3.heap[W1.heap.size]? = some (.cells #[.int .i64 F, .int .i64 T, .string S, .string ⟨#[]⟩] 52 (0, 0)) := by rw [hkeep _ (by have := HS.out; omega) (by have := HS.out; omega)]; exact HBL2.out
          have d0 : w3.cell? ⟨W1.heap.size, 0, none⟩ = some (.int .i64 F) := by simp [World.cell?, hc]
          have d1 : w3.cell? ⟨W1.heap.size, 1, none⟩ = some (.int .i64 T) := by simp [World.cell?, hc]
          have d2 : w3.cell? ⟨W1.heap.size, 2, none⟩ = some (.string S) := by simp [World.cell?, hc]
          have d3 : w3.cell? ⟨W1.heap.size, 3, none⟩ = some (.string ⟨#[]⟩) := by simp [World.cell?, hc]
          clear hstep hat hkeep hc HSE
          by_cases he : e1 = 0
          · subst he
            rw [if_pos rfl] at HIN
            have hsl : sent.length ≤ 1000 := by have := HLE.out; omega
            have HSL := Lib.hid hsl
            have hmx : (140737488355328 : Nat) ≤ maxLen := by unfold maxLen; omega
            have HMX := Lib.hid hmx
            have hbe := HAT3.out.below.size
            have HBE := Lib.hid hbe
            clear hsl hmx hbe
            go_wp2_with (at_builtin; refine wpList_append_lies _ rfl _ _ 47 rfl w.heap.size 52 i0 (.agg #[.int .i64 0, .int .i64 0, .string ByteArray.empty, .string ByteArray.empty]) 4 48 Try.underlying47 HI.out.1 HI.out.2.1 HI.out.2.2.1 HI.out.2.2.2 rfl (by decide) (.slice As sent.length cs) sent.length (fvCells sent) rfl (HAT3.out.srow.alloc _) ⟨w3.heap.size, 0, none⟩ 1 1 (fv (F, T, S)) rfl rfl (cells_new _ _ _) (by simp [fv, Value.oneCell']) (by omega) (by have := HSL.out; have := HMX.out; omega) (by have := HSL.out; omega) (by have := HBE.out; simp; omega) (w3.heap.size + 1) (by simp) ?_; intro g' cap' w4 hown4 hgr4 hlies4 hlt4)
            go_roundg (l.length - (k + 1))
            case rel =>
              refine ⟨k + 1, L1, sent ++ [(F, T, S)], got, tw, some ⟨g', 0, none⟩, Ag, cap', cg, ⟨rfl, hlt⟩, by simp, rfl, rfl, by go_num, ?_, HIN, ?_⟩
              · have := HAT3.out.push ((Below.refl _ _).alloc (Nat.le_refl _) _) (F, T, S) hown4 hgr4 (hlies4.imp id (fun e => by rw [e]; simp))
                rw [List.length_append]
                exact this
              · have := HLE.out
                exact ⟨by simp; omega, by omega, by omega⟩
            case measure => have := HK.out; omega
          · rw [if_neg he] at HIN
            have he' : ¬ (0 : Int) = e1 := fun h => he h.symm
            go_wp2_with fail
            go_roundg (l.length - (k + 1))
            case rel => exact ⟨k + 1, L1, sent, got, tw, As, Ag, cs, cg, ⟨rfl, hlt⟩, rfl, rfl, rfl, by go_num, HAT3, HIN, by have := HLE.out; exact ⟨by omega, by omega, by omega⟩⟩
            case measure => have := HK.out; omega
        · by_cases hK1 : K = 1
          · subst hK1
            clear hK0
            have HSE := Lib.hid (take_net HNET.out F T I)
            have HIN := Lib.hid (inv_take HINV.out F T I)
            obtain ⟨⟨st, sm, e1⟩, hr1⟩ : ∃ r, (takeM 3 L F T I).1 = r := ⟨_, rfl⟩
            obtain ⟨L1, hL1⟩ : ∃ e, (takeM 3 L F T I).2 = e := ⟨_, rfl⟩
            rw [hr1, hL1] at HSE HIN
            simp only at HIN
            unfold takeRet at HSE
            simp only at HSE
            clear hr1 hL1
            go_wp2_with fail
            rw [HW2.out]
            refine HSE.out.mono ?_
            rintro e w3 ⟨rfl, hstep⟩
            obtain ⟨hat, hkeep, hlast⟩ := HAF.out _ _ hstep
            have hs3 := hat.below.size
            have hc : w3.heap[W1.heap.size]? = some (.cells #[.int .i64 F, .int .i64 T, .string S, .string ⟨#[]⟩] 52 (0, 0)) := by rw [hkeep _ (by have := HS.out; omega) (by have := HS.out; omega)]; exact HBL2.out
            have hc3 : W1.heap.size < w3.heap.size := (Array.getElem?_eq_some_iff.1 hc).1
            have dc0 : w3.cell? ⟨W1.heap.size, 2, none⟩ = some (.string S) := by simp [World.cell?, hc]
            have df0 : w3.frozen? ⟨W1.heap.size, 2, none⟩ = false := by simp [World.frozen?, hc]
            obtain ⟨W3, hW3⟩ : ∃ W, w3.setCell ⟨W1.heap.size, 2, none⟩ (.string st) = W := ⟨_, rfl⟩
            have d0 : W3.cell? ⟨W1.heap.size, 0, none⟩ = some (.int .i64 F) := by rw [← hW3, World.cell?_setCell_other _ _ _ _ (by simp)]; simp [World.cell?, hc]
            have d1 : W3.cell? ⟨W1.heap.size, 1, none⟩ = some (.int .i64 T) := by rw [← hW3, World.cell?_setCell_other _ _ _ _ (by simp)]; simp [World.cell?, hc]
            have d2 : W3.cell? ⟨W1.heap.size, 2, none⟩ = some (.string st) := by rw [← hW3, World.cell?_setCell_same' _ _ _ (by rw [dc0]; rfl)]
            have d3 : W3.cell? ⟨W1.heap.size, 3, none⟩ = some (.string ⟨#[]⟩) := by rw [← hW3, World.cell?_setCell_other _ _ _ _ (by simp)]; simp [World.cell?, hc]
            have hB3 : Below W1.heap.size w3 W3 := by rw [← hW3]; exact (Below.refl _ _).setCell (p := ⟨W1.heap.size, 2, none⟩) (Nat.le_refl _) _
            have hAT3 : OnceAt w W3 (w.heap.size + 1) w.heap.size L1 sent got (.slice As sent.length cs) (.slice Ag got.length cg) := by
              refine hlast W3 (hB3.mono (by have := HAT.out.below.size; have := HS.out; omega)) (fun k hk hor => ?_)
              rw [← hW3]
              exact Below.heap_setCell _ _ _ _ (by have := HS.out; simp; omega)
            have HAT3 := Lib.hid hAT3
            clear hstep hat hkeep hc HSE hlast hs3 hB3 hAT3
            by_cases he : e1 = 0
            · subst he
              cases sm with
              | true =>
                rw [if_pos ⟨rfl, rfl⟩] at HIN
                have hsl : got.length ≤ 1000 := by have := HLE.out; omega
                have HSL := Lib.hid hsl
                have hmx : (140737488355328 : Nat) ≤ maxLen := by unfold maxLen; omega
                have HMX := Lib.hid hmx
                have hbe := HAT3.out.below.size
                have HBE := Lib.hid hbe
                clear hsl hmx hbe
                go_wp2_with (at_builtin; refine wpList_append_lies _ rfl _ _ 47 rfl w.heap.size 52 i0 (.agg #[.int .i64 0, .int .i64 0, .string ByteArray.empty, .string ByteArray.empty]) 4 48 Try.underlying47 HI.out.1 HI.out.2.1 HI.out.2.2.1 HI.out.2.2.2 rfl (by decide) (.slice Ag got.length cg) got.length (fvCells got) rfl (HAT3.out.grow.alloc _) ⟨W3.heap.size, 0, none⟩ 1 1 (fv (F, T, st)) rfl rfl (cells_new _ _ _) (by simp [fv, Value.oneCell']) (by omega) (by have := HSL.out; have := HMX.out; omega) (by have := HSL.out; omega) (by have := HBE.out; simp; omega) (W3.heap.size + 1) (by simp) ?_; intro g' cap' w4 hown4 hgr4 hlies4 hlt4)
                go_roundg (l.length - (k + 1))
                case rel =>
                  refine ⟨k + 1, L1, sent, got ++ [(F, T, st)], tw, As, some ⟨g', 0, none⟩, cs, cap', ⟨rfl, hlt⟩, rfl, by simp, rfl, by go_num, ?_, HIN, ?_⟩
                  · have := (HAT3.out.swap.push ((Below.refl _ _).alloc (Nat.le_refl _) _) (F, T, st) hown4 hgr4 (hlies4.imp id (fun e => by rw [e]; simp))).swap
                    rw [List.length_append]
                    exact this
                  · have := HLE.out
                    exact ⟨by omega, by simp; omega, by omega⟩
                case measure => have := HK.out; omega
              | false =>
                rw [if_neg (by simp)] at HIN
                go_wp2_with fail
                go_roundg (l.length - (k + 1))
                case rel => exact ⟨k + 1, L1, sent, got, tw, As, Ag, cs, cg, ⟨rfl, hlt⟩, rfl, rfl, rfl, by go_num, HAT3, HIN, by have := HLE.out; exact ⟨by omega, by omega, by omega⟩⟩
                case measure => have := HK.out; omega
            · rw [if_neg (fun h => he h.1)] at HIN
              have he' : ¬ (0 : Int) = e1 := fun h => he h.symm
              go_wp2_with fail
              go_roundg (l.length - (k + 1))
              case rel => exact ⟨k + 1, L1, sent, got, tw, As, Ag, cs, cg, ⟨rfl, hlt⟩, rfl, rfl, rfl, by go_num, HAT3, HIN, by have := HLE.out; exact ⟨by omega, by omega, by omega⟩⟩
              case measure => have := HK.out; omega
          · by_cases hK2 : K = 2
            · subst hK2
              clear hK0 hK1
              have HSE := Lib.hid (twice_net HNET.out F T I)
              have HIN := Lib.hid (inv_twice HINV.out F T I)
              obtain ⟨e1, he1⟩ : ∃ e, (twiceM 3 L F T I).1 = e := ⟨_, rfl⟩
              obtain ⟨L1, hL1⟩ : ∃ e, (twiceM 3 L F T I).2 = e := ⟨_, rfl⟩
              rw [he1, hL1] at HSE HIN
              clear he1 hL1
              go_wp2_with fail
              rw [HW2.out]
              refine HSE.out.mono ?_
              rintro e w3 ⟨rfl, hstep⟩
              obtain ⟨hat, _, _⟩ := HAF.out _ _ hstep
              have HAT3 := Lib.hid hat
              clear hstep hat HSE
              by_cases he : e1 = 0
              · subst he
                rw [if_pos rfl] at HIN
                go_wp2_with fail
                go_roundg (l.length - (k + 1))
                case rel => exact ⟨k + 1, L1, sent, got, tw + 1, As, Ag, cs, cg, ⟨rfl, hlt⟩, rfl, rfl, by go_num, by go_num, HAT3, HIN, by have := HLE.out; exact ⟨by omega, by omega, by omega⟩⟩
                case measure => have := HK.out; omega
              · rw [if_neg he] at HIN
                have he' : ¬ (0 : Int) = e1 := fun h => he h.symm
                go_wp2_with fail
                go_roundg (l.length - (k + 1))
                case rel => exact ⟨k + 1, L1, sent, got, tw, As, Ag, cs, cg, ⟨rfl, hlt⟩, rfl, rfl, rfl, by go_num, HAT3, HIN, by have := HLE.out; exact ⟨by omega, by omega, by omega⟩⟩
                case measure => have := HK.out; omega
            · by_cases hK3 : K = 3
              · subst hK3
                clear hK0 hK1 hK2
                have HSE := Lib.hid (bend_net HNET.out F T I At M HXK.out.1 HINV.out.size)
                have HIN := Lib.hid (inv_bend HINV.out F T I At M)
                obtain ⟨e1, he1⟩ : ∃ e, (bendM 3 L F T I At M).1 = e := ⟨_, rfl⟩
                obtain ⟨L1, hL1⟩ : ∃ e, (bendM 3 L F T I At M).2 = e := ⟨_, rfl⟩
                rw [he1, hL1] at HSE
                rw [hL1] at HIN
                clear he1 hL1
                go_wp2_with fail
                rw [HW2.out]
                refine HSE.out.mono ?_
                rintro e w3 ⟨rfl, hstep⟩
                obtain ⟨hat, _, _⟩ := HAF.out _ _ hstep
                have HAT3 := Lib.hid hat
                clear hstep hat HSE
                go_wp2_with fail
                go_roundg (l.length - (k + 1))
                case rel => exact ⟨k + 1, L1, sent, got, tw, As, Ag, cs, cg, ⟨rfl, hlt⟩, rfl, rfl, rfl, by go_num, HAT3, HIN, by have := HLE.out; exact ⟨by omega, by omega, by omega⟩⟩
                case measure => have := HK.out; omega
              · have HAT3 := Lib.hid (HAF.out _ _ (NetStep.same HNET.out (Below.refl _ _))).1
                have k0 : ¬ (0 : Int) = K := fun h => hK0 h.symm
                have k1 : ¬ (1 : Int) = K := fun h => hK1 h.symm
                have k2 : ¬ (2 : Int) = K := fun h => hK2 h.symm
                have k3 : ¬ (3 : Int) = K := fun h => hK3 h.symm
                go_wp2_with fail
                rw [HW2.out]
                go_roundg (l.length - (k + 1))
                case rel => exact ⟨k + 1, L, sent, got, tw, As, Ag, cs, cg, ⟨rfl, hlt⟩, rfl, rfl, rfl, by go_num, HAT3, HINV, by have := HLE.out; exact ⟨by omega, by omega, by omega⟩⟩
                case measure => have := HK.out; omega
      · have hke : k = l.length := by have := HK.out; omega
        have hlt' : ¬ (k : Int) < l.length := by omega
        have htw : (tw : Int) < 1000 := by have := HLE.out; have := H80.out; omega
        have hgl : got.length < 1000 := by have := HLE.out; have := H80.out; omega
        have hsl : sent.length < 1000 := by have := HLE.out; have := H80.out; omega
        clear hke
        go_wp2_with fail
        obtain ⟨wo, rfl⟩ : ∃ wo : World, wo = wr := ⟨_, rfl⟩
        have hrow : ∀ q (hq : q < got.length), ∃ G, Ag = some ⟨G, 0, none⟩ ∧ wo.cell? ⟨G, q * 4, none⟩ = some (.int .i64 got[q].1) ∧ wo.cell? ⟨G, q * 4 + 1, none⟩ = some (.int .i64 got[q].2.1) ∧ wo.cell? ⟨G, q * 4 + 2, none⟩ = some (.string got[q].2.2) ∧ wo.cell? ⟨G, q * 4 + 3, none⟩ = some (.string ⟨#[]⟩) := by
          intro q hq
          exact fv_row HAT.out.grow hq
        have hrowS : ∀ q (hq : q < sent.length), ∃ G, As = some ⟨G, 0, none⟩ ∧ wo.cell? ⟨G, q * 4, none⟩ = some (.int .i64 sent[q].1) ∧ wo.cell? ⟨G, q * 4 + 1, none⟩ = some (.int .i64 sent[q].2.1) ∧ wo.cell? ⟨G, q * 4 + 2, none⟩ = some (.string sent[q].2.2) ∧ wo.cell? ⟨G, q * 4 + 3, none⟩ = some (.string ⟨#[]⟩) := by
          intro q hq
          exact fv_row HAT.out.srow hq
        have HR := Lib.hid hrow
        have HRS := Lib.hid hrowS
        have HBL : Hid (Below w.heap.size w wo) := HAT.out.below
        clear hrow hrowS
        go_loopg [13] got.length (fun n t13 wr => ∃ (i d : Nat), Hid (n = got.length - i ∧ i ≤ got.length) ∧ t13 = .int .i64 i ∧ wr = wo.drewN d)
        case atStart => exact ⟨0, 0, ⟨rfl, Nat.zero_le _⟩, rfl, rfl⟩
        case round =>
          obtain ⟨i, d, HKi, rfl, rfl⟩ := hrel
          by_cases hil : i < got.length
          · obtain ⟨x, hx⟩ : ∃ x, got[i] = x := ⟨_, rfl⟩
            obtain ⟨G, rfl, x0, x1, x2, x3⟩ := HR.out i hil
            rw [hx] at x0 x1 x2
            have hil' : (i : Int) < got.length := by omega
            have HX := Lib.hid hx
            clear hx
            go_wp2_with fail
            go_loopg [14, 16] got.length (fun n t14 t16 wr => ∃ (q d : Nat), Hid (n = got.length - q ∧ q ≤ got.length) ∧ t14 = .int .i64 (cnt x (got.take q)) ∧ t16 = .int .i64 q ∧ wr = wo.drewN d)
            case atStart => exact ⟨0, _, ⟨rfl, Nat.zero_le _⟩, rfl, rfl, rfl⟩
            case round =>
              obtain ⟨q, d, HKq, rfl, rfl, rfl⟩ := hrel
              by_cases hql : q < got.length
              · obtain ⟨y, hy⟩ : ∃ y, got[q] = y := ⟨_, rfl⟩
                obtain ⟨G', hG, y0, y1, y2, y3⟩ := HR.out q hql
                cases hG
                rw [hy] at y0 y1 y2
                have hql' : (q : Int) < got.length := by omega
                have heq := fun w => fv_equal w y x
                have HTk := Lib.hid (cnt_take x hql)
                rw [hy] at HTk
                have HCl := Lib.hid (cnt_le x (got.take q))
                have hcb : (cnt x (got.take q) : Int) < 1000 := by have := HCl.out; have := List.length_take_le q got; omega
                clear hy
                by_cases hyx : y = x
                · have hd : decide (y = x) = true := by simp [hyx]
                  rw [if_pos hyx] at HTk
                  rw [hd] at heq
                  have HYX := Lib.hid hyx
                  clear hyx hd
                  go_wp2_with fail
                  go_region
                  go_wp2_with fail
                  go_roundg (got.length - (q + 1))
                  case rel => exact ⟨q + 1, _, ⟨rfl, hql⟩, by rw [HTk.out]; simp, by go_num, rfl⟩
                  case measure => have := HKq.out; omega
                · have hd : decide (y = x) = false := by simp [hyx]
                  rw [if_neg hyx] at HTk
                  rw [hd] at heq
                  have HYX := Lib.hid hyx
                  clear hyx hd
                  go_wp2_with fail
                  go_region
                  go_wp2_with fail
                  go_roundg (got.length - (q + 1))
                  case rel => exact ⟨q + 1, _, ⟨rfl, hql⟩, by rw [HTk.out]; simp, by go_num, rfl⟩
                  case measure => have := HKq.out; omega
              · have hqe : q = got.length := by have := HKq.out; omega
                have hql' : ¬ (q : Int) < got.length := by omega
                rw [show got.take q = got from by rw [hqe, List.take_length]]
                have HCl := Lib.hid (cnt_le x got)
                have hcb : (cnt x got : Int) < 1000 := by have := HCl.out; omega
                clear hqe
                go_wp2_with fail
                go_loopg [15, 17] sent.length (fun n t15 t17 wr => ∃ (q d : Nat), Hid (n = sent.length - q ∧ q ≤ sent.length) ∧ t15 = .int .i64 (cnt x (sent.take q)) ∧ t17 = .int .i64 q ∧ wr = wo.drewN d)
                case atStart => exact ⟨0, _, ⟨rfl, Nat.zero_le _⟩, rfl, rfl, rfl⟩
                case round =>
                  obtain ⟨q2, d2, HKq2, rfl, rfl, rfl⟩ := hrel
                  by_cases hql2 : q2 < sent.length
                  · obtain ⟨y, hy⟩ : ∃ y, sent[q2] = y := ⟨_, rfl⟩
                    obtain ⟨G2, rfl, y0, y1, y2, y3⟩ := HRS.out q2 hql2
                    rw [hy] at y0 y1 y2
                    have hql2' : (q2 : Int) < sent.length := by omega
                    have heq := fun w => fv_equal w y x
                    have HTk := Lib.hid (cnt_take x hql2)
                    rw [hy] at HTk
                    have HCl2 := Lib.hid (cnt_le x (sent.take q2))
                    have hcb2 : (cnt x (sent.take q2) : Int) < 1000 := by have := HCl2.out; have := List.length_take_le q2 sent; omega
                    clear hy
                    by_cases hyx : y = x
                    · have hd : decide (y = x) = true := by simp [hyx]
                      rw [if_pos hyx] at HTk
                      rw [hd] at heq
                      have HYX := Lib.hid hyx
                      clear hyx hd
                      go_wp2_with fail
                      go_region
                      go_wp2_with fail
                      go_roundg (sent.length - (q2 + 1))
                      case rel => exact ⟨q2 + 1, _, ⟨rfl, hql2⟩, by rw [HTk.out]; simp, by go_num, rfl⟩
                      case measure => have := HKq2.out; omega
                    · have hd : decide (y = x) = false := by simp [hyx]
                      rw [if_neg hyx] at HTk
                      rw [hd] at heq
                      have HYX := Lib.hid hyx
                      clear hyx hd
                      go_wp2_with fail
                      go_region
                      go_wp2_with fail
                      go_roundg (sent.length - (q2 + 1))
                      case rel => exact ⟨q2 + 1, _, ⟨rfl, hql2⟩, by rw [HTk.out]; simp, by go_num, rfl⟩
                      case measure => have := HKq2.out; omega
                  · have hqe : q2 = sent.length := by have := HKq2.out; omega
                    have hql2' : ¬ (q2 : Int) < sent.length := by omega
                    rw [show sent.take q2 = sent from by rw [hqe, List.take_length]]
                    have hfin := HINV.out.final (x := x) (by rw [← HX.out]; exact List.getElem_mem hil)
                    have HCs := Lib.hid (cnt_le x sent)
                    have hcs : (cnt x sent : Int) < 1000 := by have := HCs.out; omega
                    have hb0 : ¬ ((cnt x sent : Int) = 0) := by omega
                    have hle : ¬ ((cnt x sent : Int) + tw < cnt x got) := by omega
                    have hle' : (cnt x got : Int) ≤ (cnt x sent : Int) + tw := by omega
                    clear hqe hfin
                    go_wp2_with fail
                    go_roundg (got.length - (i + 1))
                    case rel => exact ⟨i + 1, _, ⟨rfl, hil⟩, by go_num, rfl⟩
                    case measure => have := HKi.out; omega
          · have hil' : ¬ (i : Int) < got.length := by omega
            go_wp2_with fail
            refine (awake26 (wo.drewN d)).mono ?_
            rintro e w' ⟨rfl, hb⟩
            have HBB := Lib.hid hb
            clear hb
            go_wp2_with fail
            go_ret
            refine ⟨rfl, HBL.out.trans ?_⟩
            have hd : Below w.heap.size wo (wo.drewN d) := ⟨rfl, rfl, rfl, Nat.le_refl _, fun _ _ => rfl⟩
            exact hd.trans (HBB.out.mono HBL.out.size)

set_option maxRecDepth 100000 in
theorem linkOnce_any {H : Type} {ts : List TypeId} {ds : List (DataW H)} (w : World) (v : Value) (base : Nat) (p : List MemPlace) (d : DataW H) (enc : TypeId × Value → H) (hv : Value.okWide Try.prog w .any base 43 v)
    (h : DataW.Trod enc Try.prog w 0 (fun _ => true) true 43 v d p) (hsz : (DataW.weightsEach Try.prog ts ds).all (· ≤ reachBytes) = true)
    (ht : ts[0]? = some 43 := by rfl) (hd : ds[0]? = some d := by rfl) :
    Calls Try.prog 8 #[v] w fun e w' => e = .returned (.bool true) ∧ Below w.heap.size w w' := by
  obtain ⟨A, c, l, rfl, h1, h2, h3⟩ := open_acts hv h (fun n hn => by
    have := List.all_eq_true.1 hsz _ (DataW.weights_mem_each ht hd n hn)
    simpa using this)
  exact linkOnce_walk A c l w h1 h2 h3
end Go.Proofs.Ytnnmhpplmihidaa
