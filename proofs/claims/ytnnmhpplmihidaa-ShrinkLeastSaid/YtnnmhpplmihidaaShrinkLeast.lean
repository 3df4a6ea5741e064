/- ShrinkLeast's walk. -/
import Derived.Deep.Grids
import Derived.Deep.QuietTactic
import Derived.BigQuiet
import Derived.Deep.RegionWith
import Derived.SizedLaws
import Derived.WideLaws
import Derived.Test.YtnnmhpplmihidaaAwake43
namespace Go.Proofs.Ytnnmhpplmihidaa
set_option linter.unusedVariables false
set_option linter.unusedSimpArgs false
open PShrinkLeast Go.RowKit Go.Proofs.YtnnmhpplmihidaaW.PrintWords

theorem bools_C {w : World} {A : Option Addr} {l : List Bool} (h : BoolsAt w A l) (hl : l.length ≤ 1000) : Kd.C Kd.bool w A l.length l := by
  refine ⟨rfl, by omega, fun h0 => ?_⟩
  obtain ⟨a, e, _⟩ := h 0 h0
  refine ⟨a, e, fun j p hp => ?_⟩
  obtain ⟨hj, rfl⟩ := List.getElem?_eq_some_iff.1 hp
  obtain ⟨a', e', h1⟩ := h j hj
  rw [e] at e'
  cases e'
  refine ⟨[.bool l[j]], rfl, rfl, fun i u hu => ?_⟩
  cases i with
  | zero =>
    simp at hu
    subst hu
    rw [show Kd.bool.sz = 1 from rfl, Nat.mul_one, Nat.add_zero]
    exact h1
  | succ i => simp at hu

theorem leastAll_len (K : List Int → Bool) : ∀ (f : Nat) (out : List Int) (n : Nat), (leastAll K f out n).1.length ≤ out.length
  | 0, out, n => Nat.le_refl _
  | f + 1, out, n => by
    have h := (leastPass_len K out.length out 0 n false (by omega)).1
    unfold leastAll
    split
    · exact Nat.le_trans (leastAll_len K f _ _) h
    · exact h

theorem leastOf_len (K : List Int → Bool) (l : List Int) : (leastOf K l).1.length ≤ l.length := by
  unfold leastOf
  split
  · exact leastAll_len K _ l 1
  · exact Nat.le_refl _

set_option maxHeartbeats 4000000 in
set_option maxRecDepth 100000 in
theorem shrink_walk (A : Option Addr) (c : Nat) (need : List Bool) (w : World) (hnd : BoolsAt w A need) (hc : need.length ≤ c) (hl : need.length ≤ maxLen) :
    Calls Try.prog 7 #[.slice A need.length c] w fun e w' => e = .returned (.bool true) ∧ Below w.heap.size w w' := by
  unfold maxLen at hl
  have hmf : ∀ (fn : Fn) (first cap : Array Value) (w : World), (Instr.makeFunc fn first cap).run Try.prog w = .ok (.func fn first cap) w := fun _ _ _ _ => rfl
  obtain ⟨w1, hw1⟩ : ∃ W, w.alloc (.cells #[.slice A need.length c] 28) = W := ⟨_, rfl⟩
  have hbx : w1.heap[w.heap.size]? = some (.cells #[.slice A need.length c] 28 (0, 0)) := by rw [← hw1]; exact World.alloc_heap_new _ _
  have hb1 : Below w.heap.size w w1 := by rw [← hw1]; exact (Below.refl _ _).alloc (Nat.le_refl _) _
  have hcell : w1.cell? ⟨w.heap.size, 0, none⟩ = some (.slice A need.length c) := by simp [World.cell?, hbx]
  have HBX := Lib.hid hbx
  have HB1 := Lib.hid hb1
  have HND := Lib.hid (hnd.below hb1)
  have HC := Lib.hid hc
  clear hbx hb1 hnd hc
  by_cases h4 : need.length ≤ 400
  · have h4' : ¬ (400 : Int) < need.length := by omega
    have h4'' : (need.length : Int) ≤ 400 := by omega
    clear hl
    obtain ⟨i0, hi, hz0, hz1, hz2⟩ := info_parts info_Op
    have HI := Lib.hid (And.intro hi (And.intro hz0 (And.intro hz1 hz2)))
    clear hi hz0 hz1 hz2
    go_enter Try.func7, Try.ntmps7
    go_wp2_with fail
    go_loopg [3, 4] need.length (fun n t3 t4 wr => ∃ (k : Nat) (A3 : Option Addr) (c3 : Nat), Hid (n = need.length - k ∧ k ≤ need.length) ∧ t3 = .slice A3 k c3 ∧ t4 = .int .i64 k ∧
      Hid (wr.ownsRow w1.heap.size 34 8 (.slice A3 k c3) k (opsC (placesTo k))) ∧ Hid (Below w1.heap.size w1 wr))
    case atStart => exact ⟨0, none, 0, ⟨rfl, Nat.zero_le _⟩, rfl, rfl, ⟨by simp [placesTo, opsC], .inl ⟨rfl, rfl⟩⟩, Below.refl _ _⟩
    case round =>
      obtain ⟨k, A3, c3, HN, rfl, rfl, HO, HB⟩ := hrel
      have hcell := cell_below HB.out hcell
      by_cases hlt : k < need.length
      · have hlt' : (k : Int) < need.length := by omega
        have HK4 : Hid (k ≤ 400) := by simp only [Hid]; omega
        have HBW : Hid (w1.heap.size ≤ wr.heap.size) := HB.out.size
        go_wp2_with (at_builtin; refine wpList_append_own _ rfl _ _ 32 rfl w1.heap.size 34 i0 opZ 8 80 Try.underlying32 HI.out.1 HI.out.2.1 HI.out.2.2.1 HI.out.2.2.2 rfl (by decide) (.slice A3 k c3) k (opsC (placesTo k)) rfl (HO.out.alloc _) ⟨wr.heap.size, 0, none⟩ 1 1 (opC k) rfl rfl (cells_new _ _ _) (fun u hu => opsC_one [(k : Int)] u (by simpa [opsC] using hu)) (by have := HK4.out; unfold maxLen; omega) (by have := HK4.out; omega) (by have := HBW.out; simp; omega) ?_; intro v' w2 hown' hgrow hnil; obtain ⟨A4, c4, hv⟩ := own_shape hown'; subst hv; have HO2 : Hid (w2.ownsRow w1.heap.size 34 8 (.slice A4 (k + 1) c4) (k + 1) (opsC (placesTo (k + 1)))) := (by rw [placesTo_succ, opsC_append]; simpa [Hid, opsC] using hown'); have HB2 : Hid (Below w1.heap.size w1 w2) := (HB.out.trans (((Below.refl wr.heap.size wr).alloc (Nat.le_refl _) (.cells (opC k).toArray 34)).mono HB.out.size)).grown hgrow (by have := HB.out.size; simp; omega) (fun q e => own_ge' HO.out q e); clear hown' hgrow hnil)
        go_roundg (need.length - (k + 1))
        case rel => exact ⟨k + 1, A4, c4, ⟨rfl, hlt⟩, rfl, by go_num, HO2, HB2⟩
        case measure => have := HN.out; omega
      · have hlt' : ¬ (k : Int) < need.length := by omega
        have hke : k = need.length := by have := HN.out; omega
        subst hke
        obtain ⟨l, hle⟩ : ∃ l, placesTo need.length = l := ⟨_, rfl⟩
        have hplen : l.length = need.length := by rw [← hle, placesTo_length]
        have hl1000 : l.length ≤ 1000 := by omega
        have ho := HO.out
        rw [hle, ← hplen] at ho
        have hbxr : wr.heap[w.heap.size]? = some (.cells #[.slice A need.length c] 28 (0, 0)) := (HB.out.block _ (Array.getElem?_eq_some_iff.1 HBX.out).1).trans HBX.out
        obtain ⟨kA, hasked⟩ := asked_f (need := need) (by omega)
        rw [hle] at hasked
        have hlen := leastOf_len (needK need) l
        have hleast := least_any (enters_of Try.func21 (by kernel_rfl) rfl) wr (asks_need wr w.heap.size A c need hbxr (HND.out.below HB.out) (by omega)) A3 c3 l hl1000 (Rd.of_own ho)
        unfold LeastRet at hleast
        obtain ⟨⟨out, n⟩, hres⟩ : ∃ r, leastOf (needK need) l = r := ⟨_, rfl⟩
        rw [hres] at hasked hlen hleast
        simp only at hasked hlen hleast
        rw [hplen] at hleast ho
        have HLE := Lib.hid hleast
        have HASK := Lib.hid hasked
        have HLO := Lib.hid ho
        have HPL := Lib.hid hplen
        have hout : (out.length : Int) ≤ 400 := by omega
        have hnd1 : need.length ≤ 1000 := by omega
        have HL1 : Hid (l.length ≤ 1000) := hl1000
        clear hle hplen hl1000 ho hbxr hasked hlen hleast hres HO HI
        go_wp2_with fail
        refine HLE.out.mono ?_
        rintro e w2 ⟨v2, rfl, hrow, hb2⟩
        obtain ⟨A2, c2, rfl⟩ := own_shape hrow
        have hcell := cell_below hb2 hcell
        have HROW := Lib.hid hrow
        have HB2 := Lib.hid hb2
        have HCA := Lib.hid (hearsayref43_Asked.calls kA A c need out n w2 (bools_C ((HND.out.below HB.out).below hb2) hnd1) HC.out HASK.out)
        clear hrow hb2 HLE HASK
        go_wp2_with fail
        refine HCA.out.mono ?_
        rintro e w3 ⟨v3, rfl, hR, hb3⟩
        obtain ⟨A5, c5, rfl, hc5, hC5⟩ := Kd.R_reads hR
        have HC5 := Lib.hid hC5
        have HB3 := Lib.hid hb3
        have HROW3 := Lib.hid (own_keep HROW.out (fun q hq => hb3.block q (own_lt' HROW.out q hq)))
        clear hR hc5 hC5 hb3 HCA
        have hnn : ((n : Int) != n) = false := by simp
        go_wp2_with fail
        go_loopg [9] out.length (fun g t9 wq => ∃ (i d : Nat), Hid (g = out.length - i ∧ i ≤ out.length) ∧ t9 = .int .i64 i ∧ wq = w3.drewN d)
        case atStart => exact ⟨0, 0, ⟨rfl, Nat.zero_le _⟩, rfl, rfl⟩
        case round =>
          obtain ⟨i, d, HNi, rfl, rfl⟩ := hrel
          by_cases hil : i < out.length
          · have hil' : (i : Int) < out.length := by omega
            have hi0 : (0 : Int) ≤ i := by omega
            obtain ⟨a, rfl, hx⟩ := rd_op (Rd.of_own HROW3.out) hil
            obtain ⟨a5, rfl, hy⟩ := Kd.at_int HC5.out i hi0 (by omega)
            have he : rd out i = out[i] := by simp [rd, hil]
            rw [he, Int.toNat_natCast] at hy
            obtain ⟨x, hxe⟩ : ∃ x, out[i] = x := ⟨_, rfl⟩
            rw [hxe] at hx hy
            have hxx : (x != x) = false := by simp
            clear he hxe
            go_wp2_with fail
            go_quiet (fail)
            go_wp2_with fail
            go_roundg (out.length - (i + 1))
            case rel => exact ⟨i + 1, _, ⟨rfl, hil⟩, by go_num, rfl⟩
            case measure => have := HNi.out; omega
          · have hil' : ¬ (i : Int) < out.length := by omega
            obtain ⟨wz, hwz⟩ : ∃ W, w3.drewN d = W := ⟨_, rfl⟩
            have hbz : Below w3.heap.size w3 wz := by rw [← hwz]; exact ⟨rfl, rfl, rfl, Nat.le_refl _, fun _ _ => rfl⟩
            have hbz1 : Below wr.heap.size wr wz := (HB2.out.trans (HB3.out.mono HB2.out.size)).trans (hbz.mono (Nat.le_trans HB2.out.size HB3.out.size))
            have HBZ : Hid (Below w.heap.size w wz) := HB1.out.trans ((HB.out.trans (hbz1.mono HB.out.size)).mono HB1.out.size)
            have hlz := own_keep HLO.out (fun q hq => hbz1.block q (own_lt' HLO.out q hq))
            rw [hwz]
            clear hwz hbz hbz1
            have hlz1 := hlz
            rw [← HPL.out] at hlz1
            have hnil := least_nil wz A3 c3 l HL1.out (Rd.of_own hlz1)
            rw [HPL.out] at hnil
            have HNIL := Lib.hid hnil
            have HLZ := Lib.hid hlz
            clear hnil hlz hlz1
            go_wp2_with fail
            refine HNIL.out.mono ?_
            rintro e wa ⟨va, rfl, hra, hba⟩
            obtain ⟨Aa, ca, rfl⟩ := own_shape hra
            have hla := own_keep HLZ.out (fun q hq => hba.block q (own_lt' HLZ.out q hq))
            have hla1 := hla
            rw [← HPL.out] at hla1
            have hno := least_any (enters_of Try.func24 (by kernel_rfl) rfl) wa (asks_no wa) A3 c3 l HL1.out (Rd.of_own hla1)
            unfold LeastRet at hno
            rw [show leastOf (fun _ => false) l = (l, 1) from rfl] at hno
            simp only at hno
            rw [HPL.out] at hno
            have HNO := Lib.hid hno
            have HLA := Lib.hid hla
            have HRA := Lib.hid hra
            have HBA := Lib.hid hba
            clear hno hla hla1 hra hba HNIL
            go_wp2_with fail
            refine HNO.out.mono ?_
            rintro e wb ⟨vb, rfl, hrb, hbb⟩
            obtain ⟨Ab, cb, rfl⟩ := own_shape hrb
            have hlb := own_keep HLA.out (fun q hq => hbb.block q (own_lt' HLA.out q hq))
            have hrab := own_keep HRA.out (fun q hq => hbb.block q (own_lt' HRA.out q hq))
            have HLB := Lib.hid hlb
            have HRAB := Lib.hid hrab
            have HRB := Lib.hid hrb
            have HBB := Lib.hid hbb
            have hs1 : Hid (Calls Try.prog 25 #[.slice Aa need.length ca, .slice A3 need.length c3] wb fun e w' => e = .returned (.bool true) ∧ Below wb.heap.size wb w') := by
              have h1 := hrab
              have h2 := hlb
              rw [← HPL.out] at h1 h2
              have h3 := same_ops h1 h2 HL1.out
              rw [HPL.out] at h3
              exact h3
            clear hlb hrab hrb hbb HNO
            go_wp2_with fail
            refine hs1.out.mono ?_
            rintro e wd ⟨rfl, hbd⟩
            have hs2 : Hid (Calls Try.prog 25 #[.slice Ab need.length cb, .slice A3 need.length c3] wd fun e w' => e = .returned (.bool true) ∧ Below wd.heap.size wd w') := by
              have h1 := own_keep HRB.out (fun q hq => hbd.block q (own_lt' HRB.out q hq))
              have h2 := own_keep HLB.out (fun q hq => hbd.block q (own_lt' HLB.out q hq))
              rw [← HPL.out] at h1 h2
              have h3 := same_ops h1 h2 HL1.out
              rw [HPL.out] at h3
              exact h3
            have HBD := Lib.hid hbd
            clear hbd hs1
            go_wp2_with fail
            refine hs2.out.mono ?_
            rintro e wf ⟨rfl, hbf⟩
            have HBF := Lib.hid hbf
            clear hbf hs2
            go_wp2_with fail
            refine (awake43 wf).mono ?_
            rintro e wg ⟨rfl, hbg⟩
            have HBG := Lib.hid hbg
            clear hbg
            go_wp2_with fail
            go_ret
            refine ⟨rfl, ?_⟩
            have h1 : Below w.heap.size w wa := HBZ.out.trans (HBA.out.mono HBZ.out.size)
            have h2 : Below w.heap.size w wb := h1.trans (HBB.out.mono h1.size)
            have h3 : Below w.heap.size w wd := h2.trans (HBD.out.mono h2.size)
            have h4 : Below w.heap.size w wf := h3.trans (HBF.out.mono h3.size)
            exact h4.trans (HBG.out.mono h4.size)
  · have h4' : (400 : Int) < need.length := by omega
    go_enter Try.func7, Try.ntmps7
    go_wp2_with fail
    refine (awake43 w1).mono ?_
    rintro e w' ⟨rfl, hb⟩
    go_wp2_with fail
    go_ret
    exact ⟨rfl, HB1.out.trans (hb.mono HB1.out.size)⟩

set_option maxRecDepth 100000 in
theorem shrink_any {H : Type} {ts : List TypeId} {ds : List (DataW H)} (w : World) (v : Value) (base : Nat) (p : List MemPlace) (d : DataW H) (enc : TypeId × Value → H) (hv : Value.okWide Try.prog w .any base 28 v)
    (h : DataW.Trod enc Try.prog w 0 (fun _ => true) true 28 v d p) (hsz : (DataW.weightsEach Try.prog ts ds).all (· ≤ reachBytes) = true) :
    Calls Try.prog 7 #[v] w fun e w' => e = .returned (.bool true) ∧ Below w.heap.size w w' := by
  obtain ⟨fuel, hf⟩ := h
  obtain ⟨A0, n0, c0, rfl⟩ := Go.WideShapes.okWide_slice Try.underlying28 hv
  rcases Go.Deep.open_bools Try.underlying28 Try.underlying4 (by kernel_rfl) hf with ⟨hc, _⟩ | ⟨a, len, cap, B, hc, _, hlc, hcm, _, hi⟩
  · simp [Value.cells] at hc
    obtain ⟨rfl, rfl, rfl⟩ := hc
    exact shrink_walk none 0 [] w (fun j hj => by simp at hj) (Nat.zero_le _) (by simp [maxLen])
  · simp [Value.cells] at hc
    obtain ⟨rfl, rfl, rfl⟩ := hc
    have hlen : ((List.range n0).map B).length = n0 := by simp
    have := shrink_walk (some a) c0 ((List.range n0).map B) w (fun j hj => ⟨a, rfl, by
      rw [hi j (by rw [hlen] at hj; omega)]
      simp⟩) (by rw [hlen]; exact hlc) (by rw [hlen]; omega)
    rw [hlen] at this
    exact this
end Go.Proofs.Ytnnmhpplmihidaa
