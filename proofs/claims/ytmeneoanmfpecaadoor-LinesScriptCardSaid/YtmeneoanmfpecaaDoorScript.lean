/- package lines: a script. -/
import Derived.Deep.LoopGhost
import Derived.StillTailTactics
import Derived.Deep.RegionHeld3
import Derived.Deep.QuietTactic
import Derived.BigQuiet
import Derived.WalkSpells
import Derived.Lib.SmallJoins
import Derived.Test.YtmeneoanmfpecaaDoorLinesLaws
import Derived.Test.YtmeneoanmfpecaaDoorScriptPure
namespace Go.Proofs.YtmeneoanmfpecaaDoor
set_option linter.unusedVariables false
set_option linter.unusedSimpArgs false
open Go.RowKit

/-- An operation's cells, from an address on. -/
def Cell8 (w : World) (a : Addr) (x : OpR) : Prop := w.cell? a = some (.int .i64 x.k) ∧ w.cell? ⟨a.block, a.off + 1, none⟩ = some (.int .i64 x.p) ∧ w.cell? ⟨a.block, a.off + 2, none⟩ = some (.int .i64 x.t) ∧ w.cell? ⟨a.block, a.off + 3, none⟩ = some (.int .i64 x.n) ∧
  w.cell? ⟨a.block, a.off + 4, none⟩ = some (.int .i64 x.a) ∧ w.cell? ⟨a.block, a.off + 5, none⟩ = some (.int .i64 x.m) ∧ w.cell? ⟨a.block, a.off + 6, none⟩ = some (.string x.u) ∧ w.cell? ⟨a.block, a.off + 7, none⟩ = some (.string x.v)
def OpsAt (w : World) (A : Option Addr) (l : List OpR) : Prop := ∀ i (hi : i < l.length), ∃ a, A = some a ∧ Cell8 w (a.add (i * 8)) l[i]
theorem Cell8.below {w w' : World} {a : Addr} {x : OpR} (h : Cell8 w a x) (hb : Below w.heap.size w w') : Cell8 w' a x :=
  ⟨cell_below hb h.1, cell_below hb h.2.1, cell_below hb h.2.2.1, cell_below hb h.2.2.2.1, cell_below hb h.2.2.2.2.1, cell_below hb h.2.2.2.2.2.1, cell_below hb h.2.2.2.2.2.2.1, cell_below hb h.2.2.2.2.2.2.2⟩
theorem OpsAt.below {w w' : World} {A : Option Addr} {l : List OpR} (h : OpsAt w A l) (hb : Below w.heap.size w w') : OpsAt w' A l := fun i hi => by
  obtain ⟨a, e, h⟩ := h i hi
  exact ⟨a, e, h.below hb⟩
theorem ops_own {w : World} {base e n c : Nat} {A : Option Addr} {l : List OpR} (h : w.ownsRow base e 8 (.slice A n c) n (opV l)) : n = l.length ∧ OpsAt w A l := by
  have hn : n = l.length := by have := h.1; rw [opV_length] at this; omega
  refine ⟨hn, fun i hi => ?_⟩
  rcases h.2 with ⟨h1, h2⟩ | ⟨g, cap, cur, h1, hg, hb, h2, h3, h4, h5⟩
  · omega
  · cases h1
    refine ⟨_, rfl, ?_⟩
    have hadd : (⟨g, 0, none⟩ : Addr).add (i * 8) = ⟨g, i * 8, none⟩ := by
      unfold Addr.add
      split
      · rename_i h0; rw [h0]
      · simp
    have key : ∀ j u, j < 8 → l[i].cells[j]? = some u → w.cell? ⟨g, i * 8 + j, none⟩ = some u := by
      intro j u hj hu
      have hc := World.ownsRow.cellAt (w := w) (base := base) (e := e) (size := 8) (n := n) (cap := c) (g := g) (xs := opV l) h (i * 8 + j) (by rw [hn]; omega)
      rw [hc, opV_at l i hi j hj, hu]
    rw [hadd]
    exact ⟨key 0 _ (by omega) rfl, key 1 _ (by omega) rfl, key 2 _ (by omega) rfl, key 3 _ (by omega) rfl, key 4 _ (by omega) rfl, key 5 _ (by omega) rfl, key 6 _ (by omega) rfl, key 7 _ (by omega) rfl⟩

set_option maxHeartbeats 4000000 in
set_option maxRecDepth 100000 in
theorem same34_any (A B : Option Addr) (ca cb : Nat) (l : List OpR) (hl : l.length ≤ 1000000) (w : World) (ha : OpsAt w A l) (hb : OpsAt w B l) :
    Calls Tryd.prog 46 #[.slice A l.length ca, .slice B l.length cb] w fun e w' => e = .returned (.bool true) ∧ Below w.heap.size w w' := by
  have HA := Lib.hid ha
  have HB := Lib.hid hb
  obtain ⟨N, hN⟩ : ∃ N, l.length = N := ⟨_, rfl⟩
  have HNN := Lib.hid hN
  rw [hN] at hl ⊢
  clear ha hb hN
  go_enter Tryd.func46, Tryd.ntmps46
  go_wp2_with fail
  go_loopg [5] N (fun g t5 wr => ∃ k : Nat, Hid (g = N - k ∧ k ≤ N) ∧ t5 = .int .i64 k ∧ Hid (Below w.heap.size w wr))
  case atStart => exact ⟨0, ⟨rfl, Nat.zero_le _⟩, rfl, Below.refl _ _⟩
  case round =>
    obtain ⟨k, HN, rfl, HW⟩ := hrel
    have hk0 : (0 : Int) ≤ k := by omega
    by_cases hlt : k < N
    · have hlt' : (k : Int) < N := by omega
      obtain ⟨a, rfl, hca⟩ := HA.out k (by rw [HNN.out]; exact hlt)
      obtain ⟨b, rfl, hcb⟩ := HB.out k (by rw [HNN.out]; exact hlt)
      obtain ⟨d0, d1, d2, d3, d4, d5, d6, d7⟩ := hca.below HW.out
      obtain ⟨e0, e1, e2, e3, e4, e5, e6, e7⟩ := hcb.below HW.out
      obtain ⟨x, hx⟩ : ∃ x, l[k]'(by rw [HNN.out]; exact hlt) = x := ⟨_, rfl⟩
      rw [hx] at d0 d1 d2 d3 d4 d5 d6 d7 e0 e1 e2 e3 e4 e5 e6 e7
      have heq : ∀ w', (Op.equalIn 10000 30 (.agg x.cells) (.agg x.cells)).run Tryd.prog w' = .ok true w' := fun w' => by
        have h := op_equal w' x x
        rw [opEq_self] at h
        exact h
      simp only [OpR.cells] at heq
      clear hx hca hcb
      go_wp2_with fail
      go_quiet (fail)
      go_wp2_with fail
      go_roundg (N - (k + 1))
      case rel => exact ⟨k + 1, ⟨rfl, hlt⟩, by go_num, below_drawn HW.out _⟩
      case measure => have := HN.out; omega
    · have hlt' : ¬ (k : Int) < N := by omega
      go_wp2_with fail
      go_ret
      exact ⟨rfl, HW.out⟩

theorem info_Op8 : (Tryd.prog.info? 30).map (fun i => (i.zero, i.size, i.bytes)) = some (some (.agg #[.int .i64 0, .int .i64 0, .int .i64 0, .int .i64 0, .int .i64 0, .int .i64 0, .string ByteArray.empty, .string ByteArray.empty]), 8, 80) := by kernel_rfl
def opZ8 : Value := .agg #[.int .i64 0, .int .i64 0, .int .i64 0, .int .i64 0, .int .i64 0, .int .i64 0, .string ByteArray.empty, .string ByteArray.empty]

theorem cells_new2 (w : World) (o : Obj) (xs : List Value) (t : TypeId) (j : Nat) (u : Value) (h : xs[j]? = some u) : ((w.alloc o).alloc (.cells xs.toArray t)).cell? ((⟨w.heap.size + 1, 0, none⟩ : Addr).add j) = some u := by
  have h1 := cells_new (w.alloc o) xs t j u h
  have e : (w.alloc o).heap.size = w.heap.size + 1 := by simp
  rw [e] at h1
  exact h1
/-- What a script's answer is. -/
def ScriptPost (R : Nat × List OpR) (e : Ending) (w' : World) : Prop :=
  (R.1 = 0 → ∃ A c, e = .returned (.tuple #[.slice A R.2.length c, .int .i64 0, .int .i64 0]) ∧ OpsAt w' A R.2) ∧
  (R.1 ≠ 0 → e = .returned (.tuple #[.slice none 0 0, .int .i64 R.1, .int .i64 16]))

set_option maxHeartbeats 8000000 in
set_option maxRecDepth 100000 in
theorem script_any (s : ByteArray) (bs : List ByteArray) (hs : s.data.toList = joinN bs) (hnl : ∀ b ∈ bs, ∀ c ∈ b.data.toList, c ≠ 10) (hn : bs.length ≤ 40) (hsz : s.size ≤ 1000000) (w : World) (hd : Door2 w) :
    Calls Tryd.prog 45 #[.string s] w fun e w' => ScriptPost (scriptM bs 0 []) e w' ∧ Below w.heap.size w w' := by
  obtain ⟨P, hP⟩ : ∃ P, bs ++ [ByteArray.empty] = P := ⟨_, rfl⟩
  obtain ⟨N, hN⟩ : ∃ N, P.length = N := ⟨_, rfl⟩
  have hN1 : N = bs.length + 1 := by rw [← hN, ← hP]; simp
  obtain ⟨R, hR⟩ : ∃ R, scriptM bs 0 [] = R := ⟨_, rfl⟩
  have hRP : scriptM P 0 [] = R := by rw [← hP, scriptM_end, hR]
  obtain ⟨w1, hw1⟩ : ∃ W, w.alloc (.cells (P.map Value.string).toArray 9) = W := ⟨_, rfl⟩
  have HSP : Hid (Calls Tryd.prog 93 #[.string s, .string ⟨#[10]⟩] w fun e w' => e = .returned (.slice (some ⟨w.heap.size, 0, none⟩) N N) ∧ w1 = w') := Lib.hid (by
    obtain ⟨m, hm⟩ := hd.maxl
    obtain ⟨h1, h2⟩ := split_nl bs s hs hnl
    have h := Tryd.strings_Split s nlB m w (by omega) hm (by decide)
    rw [h1, h2, hP] at h
    refine h.mono ?_
    rintro e w' ⟨rfl, rfl⟩
    exact ⟨by rw [hN1], hw1.symm⟩)
  have hb1 : Below w.heap.size w w1 := by rw [← hw1]; exact (Below.refl _ _).alloc (Nat.le_refl _) _
  have hd1 := hd.below hb1
  have HB1 := Lib.hid hb1
  have hbd : ∀ b ∈ P, b.size ≤ 1000000 := by
    intro b hb
    rw [← hP] at hb
    rcases List.mem_append.1 hb with h | h
    · obtain ⟨p, q, e⟩ := List.append_of_mem h
      have e1 := congrArg List.length hs
      have e2 : s.data.toList.length = s.size := by simp
      have e3 : b.data.toList.length = b.size := by simp
      rw [e] at e1
      simp only [joinN, List.flatMap_append, List.flatMap_cons, List.length_append] at e1
      omega
    · simp at h
      subst h
      decide
  have HRD : Hid (∀ b ∈ P, ∀ w', Below w1.heap.size w1 w' → Calls Tryd.prog 44 #[.string b] w' fun e w'' => e = .returned (.tuple #[.agg (readM b.data.toList).1.cells, .int .i64 (readM b.data.toList).2]) ∧ Below w'.heap.size w' w'') := Lib.hid (fun b hb w' h => read_any b (hbd b hb) w' (hd1.below h))
  have HPC : Hid (∀ k (hk : k < P.length) w', Below w1.heap.size w1 w' → w'.cell? ⟨w.heap.size, k, none⟩ = some (.string P[k])) := Lib.hid (fun k hk w' hb => cell_below hb (by
    rw [← hw1, World.cell?_alloc_new]
    simp [hk]))
  have HPN := Lib.hid hN
  have HST : Hid (scriptM (P.drop 0) 0 [] = R) := Lib.hid (by rw [List.drop_zero, hRP])
  have hNle : N ≤ 41 := by omega
  rw [hR]
  obtain ⟨i0, hi, hz0, hz1, hz2⟩ := info_parts info_Op8
  have HI := Lib.hid (And.intro hi (And.intro hz0 (And.intro hz1 hz2)))
  clear hi hz0 hz1 hz2 hs hnl hn hsz hd hP hN hN1 hR hRP hw1 hb1 hd1 hbd
  go_enter Tryd.func45, Tryd.ntmps45
  go_wp2_with fail
  refine HSP.out.mono ?_
  rintro e w' ⟨rfl, rfl⟩
  go_wp2_with fail
  go_loopg [5, 6, 7, 8, 9, 13] N (fun g t5 t6 t7 t8 t9 t13 wr => ∃ (k m : Nat) (A : Option Addr) (c : Nat) (acc : List OpR), Hid (g = N - k ∧ k ≤ N ∧ acc.length ≤ k) ∧ t13 = .int .i64 k ∧ t5 = .slice A m c ∧ Hid (wr.ownsRow w1.heap.size 30 8 (.slice A m c) m (opV acc)) ∧ Hid (scriptM (P.drop k) k acc = R) ∧ Hid (Below w1.heap.size w1 wr))
  case atStart => exact ⟨0, 0, none, 0, [], ⟨rfl, Nat.zero_le _, Nat.le_refl _⟩, rfl, rfl, World.ownsRow_nil _ _ _ _, HST, Below.refl _ _⟩
  case round =>
    obtain ⟨k, m, A, cc, acc, HN, rfl, rfl, HO, HU, HB⟩ := hrel
    have HM : Hid (m = acc.length) := Lib.hid ((ops_own HO.out).1)
    have hk0 : (0 : Int) ≤ k := by omega
    by_cases hlt : k < N
    · have hlt' : (k : Int) < N := by omega
      have hkl : k < P.length := by rw [HPN.out]; exact hlt
      obtain ⟨b, hb⟩ : ∃ b, P[k]'hkl = b := ⟨_, rfl⟩
      have hpc := HPC.out k hkl wr HB.out
      rw [hb] at hpc
      have hbm : b ∈ P := by rw [← hb]; exact List.getElem_mem _
      have hdr : P.drop k = b :: P.drop (k + 1) := by rw [List.drop_eq_getElem_cons hkl, hb]
      have HU1 := Lib.hid HU.out
      rw [hdr] at HU1
      have HRB := Lib.hid (HRD.out b hbm)
      clear hdr HU hkl hb hbm
      by_cases hbe : b = ByteArray.empty
      · subst hbe
        have HU2 : Hid (scriptM (P.drop (k + 1)) (k + 1) acc = R) := HU1.out
        clear HU1 HRB
        go_wp2_with fail
        go_roundg (N - (k + 1))
        case rel => exact ⟨k + 1, m, A, cc, acc, ⟨rfl, hlt, by have := HN.out; omega⟩, by go_num, rfl, HO, HU2, HB⟩
        case measure => have := HN.out; omega
      · have hpos : 0 < b.size := by
          rcases Nat.eq_zero_or_pos b.size with h | h
          · exact absurd (ByteArray.ext (Array.eq_empty_of_size_eq_zero h)) hbe
          · exact h
        obtain ⟨c, hc⟩ : ∃ c, b[0]'hpos = c := ⟨_, rfl⟩
        have hbl : b.data.toList = c :: b.data.toList.drop 1 := by
          have h0 : 0 < b.data.toList.length := by simpa using hpos
          conv => lhs; rw [← List.drop_zero (l := b.data.toList), List.drop_eq_getElem_cons h0]
          rw [← hc]
          rfl
        have hskip : skipB b.data.toList = (c == 35) := by rw [hbl]; rfl
        have hie : b.toList.isEmpty = false := by rw [ByteArray.toList_eq, hbl]; rfl
        by_cases h35 : c = 35
        · subst h35
          have hcc : ((35 : UInt8).toNat : Int) = 35 := rfl
          have HU2 : Hid (scriptM (P.drop (k + 1)) (k + 1) acc = R) := Lib.hid (by
            have := HU1.out
            rw [scriptM, hskip, if_pos (by decide : ((35 : UInt8) == 35) = true)] at this
            exact this)
          clear HU1 HRB hbl hskip
          go_wp2_with fail
          go_roundg (N - (k + 1))
          case rel => exact ⟨k + 1, m, A, cc, acc, ⟨rfl, hlt, by have := HN.out; omega⟩, by go_num, rfl, HO, HU2, HB⟩
          case measure => have := HN.out; omega
        · have hc35 : ((c.toNat : Int) == 35) = false := by
            simp only [beq_eq_false_iff_ne, ne_eq]
            intro h
            exact h35 (UInt8.toNat_inj.1 (by have h' : c.toNat = 35 := by exact_mod_cast h
                                             exact h'))
          have hsk : skipB b.data.toList = false := by rw [hskip]; simpa using h35
          have HU3 : Hid ((if (readM b.data.toList).2 = 0 then scriptM (P.drop (k + 1)) (k + 1) (acc ++ [(readM b.data.toList).1]) else (k + 1, acc)) = R) := Lib.hid (by
            have := HU1.out
            rw [scriptM, hsk, if_neg (by decide)] at this
            exact this)
          clear HU1 hbl hskip hsk h35
          have HRW := Lib.hid (HRB.out wr HB.out)
          clear HRB
          rcases read_zero_or b.data.toList with hz | hz
          · obtain ⟨x, e0, hx⟩ : ∃ x e, readM b.data.toList = (x, e) := ⟨_, _, rfl⟩
            rw [hx] at hz HRW HU3
            simp only at hz
            subst hz
            simp only [if_true] at HU3
            clear hx
            obtain ⟨kk, p, t, n, a, mm, u, v⟩ := x
            simp only [OpR.cells] at HRW
            go_wp2_with fail
            refine HRW.out.mono ?_
            rintro e w2 ⟨rfl, hb2⟩
            have HB2 := Lib.hid hb2
            have HO2 : Hid (w2.ownsRow w1.heap.size 30 8 (.slice A m cc) m (opV acc)) := Lib.hid (own_keep HO.out (fun q hq => hb2.block q (own_lt' HO.out q hq)))
            have HBW : Hid (Below w1.heap.size w1 w2) := Lib.hid (HB.out.trans (hb2.mono HB.out.size))
            clear hb2
            go_wp2_with (at_builtin; refine wpList_append_own _ rfl _ _ 67 rfl w1.heap.size 30 i0 opZ8 8 80 Tryd.underlying67 HI.out.1 HI.out.2.1 HI.out.2.2.1 HI.out.2.2.2 rfl (by decide) (.slice A m cc) m (opV acc) rfl ((HO2.out.alloc _).alloc _) _ 1 1 (opV [⟨kk, p, t, n, a, mm, u, v⟩]) rfl rfl (cells_new2 w2 _ _ _) (opV_one _) (by have := HN.out; have := HM.out; unfold maxLen; omega) (by have := HN.out; have := HM.out; omega) (by have := HBW.out.size; simp; omega) ?_; intro v' w3 hown' hgrow hnil)
            obtain ⟨A4, c4, hv⟩ := own_shape hown'
            subst hv
            have HO3 : Hid (w3.ownsRow w1.heap.size 30 8 (.slice A4 (m + 1) c4) (m + 1) (opV (acc ++ [⟨kk, p, t, n, a, mm, u, v⟩]))) := by rw [opV_append]; exact hown'
            have HB3 : Hid (Below w1.heap.size w1 w3) := ((HBW.out.alloc HBW.out.size _).alloc (by have := HBW.out.size; simp; omega) _).grown hgrow (by have := HBW.out.size; simp; omega) (fun q e => own_ge' HO2.out q e)
            clear hown' hgrow hnil
            go_wp2_with fail
            go_roundg (N - (k + 1))
            case rel => exact ⟨k + 1, m + 1, A4, c4, acc ++ [⟨kk, p, t, n, a, mm, u, v⟩], ⟨rfl, hlt, by have := HN.out; simp; omega⟩, by go_num, rfl, HO3, HU3, HB3⟩
            case measure => have := HN.out; omega
          · rw [hz] at HRW HU3
            have HF : Hid (R = (k + 1, acc)) := Lib.hid (by
              have := HU3.out
              rw [if_neg (by decide)] at this
              exact this.symm)
            simp only [OpR.cells, zeroOp] at HRW
            clear HU3 hz
            go_wp2_with fail
            refine HRW.out.mono ?_
            rintro e w2 ⟨rfl, hb2⟩
            have HBW : Hid (Below w1.heap.size w1 w2) := Lib.hid (HB.out.trans (hb2.mono HB.out.size))
            clear hb2
            go_wp2_with fail
            go_ret3
            rw [HF.out]
            exact ⟨⟨fun h => absurd h (Nat.succ_ne_zero _), fun _ => by simp⟩, HB1.out.trans ((HBW.out.alloc HBW.out.size _).mono HB1.out.size)⟩
    · have hlt' : ¬ (k : Int) < N := by omega
      have HF : Hid (R = (0, acc)) := Lib.hid (by
        have h := HU.out
        rw [List.drop_eq_nil_of_le (by have := HPN.out; omega)] at h
        exact h.symm)
      have hm4 : ¬ (400 : Int) < m := by have := HN.out; have := HM.out; omega
      go_wp2_with fail
      go_ret3
      rw [HF.out]
      exact ⟨⟨fun _ => ⟨A, cc, by rw [HM.out]; rfl, (ops_own HO.out).2⟩, fun h => absurd rfl h⟩, HB1.out.trans (HB.out.mono HB1.out.size)⟩
end Go.Proofs.YtmeneoanmfpecaaDoor
