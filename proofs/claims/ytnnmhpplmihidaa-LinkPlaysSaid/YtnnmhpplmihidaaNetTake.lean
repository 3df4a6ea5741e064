/- The net of package link: Take, Twice. -/
import Derived.Deep.QuietTactic
import Derived.BigQuiet
import Derived.Deep.RegionLaw
import Derived.Test.YtnnmhpplmihidaaStep
import Derived.Test.YtnnmhpplmihidaaNetFind
namespace Go.Proofs.Ytnnmhpplmihidaa
set_option linter.unusedVariables false
set_option linter.unusedSimpArgs false
open Go.RowKit

section
variable {n0 : Nat} {w : World} {O : Nat → Prop} {g : Nat} {peers : Int} {L : Int × Int → List Fr} {mb : Nat} {m : List ((Int × Int) × Value)}

theorem beq_toList (a b : ByteArray) : (a.toList == b.toList) = decide (a = b) := by
  rw [ByteArray.toList_eq, ByteArray.toList_eq, Bool.eq_iff_iff, beq_iff_eq, decide_eq_true_eq]
  constructor
  · intro h
    cases a; cases b
    simp only [Array.toList_inj] at h
    rw [h]
  · rintro rfl; rfl

def takeL (L : Int × Int → List Fr) (a b i : Int) : Int × Int → List Fr := upd L (a, b) ((L (a, b)).eraseIdx i.toNat)
def takeM (peers : Int) (L : Int × Int → List Fr) (a b i : Int) : (ByteArray × Bool × Int) × (Int × Int → List Fr) :=
  if (findM peers L a b i).1 = 0 then (((findM peers L a b i).2.1, decide ((findM peers L a b i).2.1 = (findM peers L a b i).2.2), 0), takeL L a b i) else ((ByteArray.empty, false, (findM peers L a b i).1), L)
def takeRet (r : ByteArray × Bool × Int) : Value := .tuple #[.string r.1, .bool r.2.1, .int .i64 r.2.2]

theorem findM_zero {peers : Int} {L : Int × Int → List Fr} {a b i : Int} (h : (findM peers L a b i).1 = 0) : thereB peers a b = true ∧ ∃ n : Nat, i = n ∧ ∃ hn : n < (L (a, b)).length, findM peers L a b i = (0, (L (a, b))[n]) := by
  unfold findM at h ⊢
  split at h
  · simp at h
  · rename_i h1
    split at h
    · simp at h
    · rename_i h2
      obtain ⟨n, rfl⟩ := Int.eq_ofNat_of_zero_le (show 0 ≤ i by omega)
      have hn : n < (L (a, b)).length := by omega
      refine ⟨by simpa using h1, n, rfl, hn, ?_⟩
      rw [if_neg h1, if_neg h2]
      simp [List.getD_eq_getElem?_getD, hn]
theorem findM_code (peers : Int) (L : Int × Int → List Fr) (a b i : Int) : (findM peers L a b i).1 = 0 ∨ (findM peers L a b i).1 = 3 ∨ (findM peers L a b i).1 = 11 := by
  unfold findM
  split
  · simp
  · split <;> simp

set_option maxHeartbeats 2000000 in
set_option maxRecDepth 100000 in
theorem take_net (h : IsNet n0 w O g peers L mb m) (a b i : Int) :
    Calls Try.prog 30 #[.pointer (some ⟨g, 0, none⟩), .int .i64 a, .int .i64 b, .int .i64 i] w fun e w' => e = .returned (takeRet (takeM peers L a b i).1) ∧ NetStep n0 w O g peers (takeM peers L a b i).2 mb w' := by
  have hfind := find_net h a b i
  unfold findRet at hfind
  obtain ⟨c, hc⟩ : ∃ c, (findM peers L a b i).1 = c := ⟨_, rfl⟩
  obtain ⟨f, hf⟩ : ∃ f, (findM peers L a b i).2 = f := ⟨_, rfl⟩
  rw [hc, hf] at hfind
  have HF := Lib.hid hfind
  have HH := Lib.hid h
  by_cases h0 : c = 0
  · subst h0
    obtain ⟨ht, n, rfl, hn, hfn⟩ := findM_zero hc
    have hf' : f = (L (a, b))[n] := by rw [← hf, hfn]
    have HT : Hid (takeM peers L a b n = ((f.1, decide (f.1 = f.2), 0), takeL L a b n)) := by simp [Hid, takeM, hc, hf]
    have hm8 := h.most (a, b)
    have Hlist : Hid (∀ (w2 : World), Below w.heap.size w w2 → Calls Try.prog 50 #[.pointer (some ⟨g, 0, none⟩), .int .i64 a, .int .i64 b] w2 fun e w' => ∃ u, e = .returned u ∧ w2.ownsRow n0 94 2 u (L (a, b)).length (frCells (L (a, b))) ∧ (∀ k, u.ownBlock = some k → O k) ∧ w2 = w') :=
      fun w2 hb => list_net (h.moved (Moved.of_below O hb h.hn0)) a b ht
    have hL0 : 0 < (L (a, b)).length := Nat.lt_of_le_of_lt (Nat.zero_le _) hn
    have hn' : (n : Int) < ((L (a, b)).length : Int) := by omega
    clear hfind h hc hf hfn hf' ht
    go_enter Try.func30, Try.ntmps30
    go_wp2_with ((go_at_call 54; refine HF.out.mono ?_; rintro e w' ⟨rfl, hb⟩; obtain ⟨W2, hW2⟩ : ∃ W2, w'.alloc (.cells #[.string f.1, .string f.2] 94) = W2 := ⟨_, rfl⟩; have hb2 : Below w.heap.size w W2 := (by rw [← hW2]; exact hb.alloc hb.size _); have hbl : W2.heap[w'.heap.size]? = some (.cells #[.string f.1, .string f.2] 94 (0, 0)) := (by rw [← hW2]; exact World.alloc_heap_new _ _); have hltw : w'.heap.size < W2.heap.size := (Array.getElem?_eq_some_iff.1 hbl).1))
    refine (Hlist.out W2 hb2).mono ?_
    rintro e w3 ⟨u, rfl, hrow, hO, rfl⟩
    go_wp2_with fail
    refine (clone_Fr _ _ _ (frCells_one _) (by omega) _ (Rd.of_own hrow)).mono ?_
    rintro e w3 ⟨v1, rfl, hv1, hb3⟩
    obtain ⟨gr, cap, rfl, hgr1, hgr2⟩ := hv1.form hL0
    have hdel := delete_Fr _ gr _ cap n _ (frCells_one _) w3 hn hv1
    rw [frCells_take, frCells_drop, ← frCells_append] at hdel
    have HD := Lib.hid hdel
    clear hdel
    go_wp2_with fail
    refine HD.out.mono ?_
    rintro e w4 ⟨rfl, hv4, hg4, hs4⟩
    have hb4 : Below w.heap.size w w4 := (hb2.trans (hb3.mono hb2.size)).grown hg4 (by have := hb2.size; have := hb3.size; omega) (fun k e => by cases e; have := hb2.size; omega)
    have hfs : (L (a, b)).take n ++ (L (a, b)).drop (n + 1) = (L (a, b)).eraseIdx n := (List.eraseIdx_eq_take_drop_succ _ _).symm
    rw [hfs] at hv4
    have hfl : (L (a, b)).length - 1 = ((L (a, b)).eraseIdx n).length := by rw [List.length_eraseIdx, if_pos hn]
    have hput := put_fresh HH.out hb4 a b _ ((L (a, b)).eraseIdx n) (own_lower (by rw [← hfl]; exact hv4) hb2.size) (by rw [← hfl]; omega)
    have hbx4 : w4.heap[w'.heap.size]? = some (.cells #[.string f.1, .string f.2] 94 (0, 0)) :=
      (hg4.block _ (by have := hb3.size; omega) (by intro e; cases e; omega)).trans ((hb3.block _ hltw).trans hbl)
    have hlt4 : w'.heap.size < w4.heap.size := (Array.getElem?_eq_some_iff.1 hbx4).1
    have hmne : w'.heap.size ≠ mb := by have := HH.out.lt _ HH.out.om; have := hb.size; omega
    have HP := Lib.hid hput
    clear hput hfs hfl hv4 hrow hO hv1 hbl hs4
    go_wp2_with fail
    refine HP.out.mono ?_
    rintro e w5 ⟨rfl, hstep, hm5⟩
    have hbx5 := (hm5.keep _ hlt4 hmne).trans hbx4
    have d0 : w5.cell? ⟨w'.heap.size, 0, none⟩ = some (.string f.1) := by simp [World.cell?, hbx5]
    have d1 : w5.cell? ⟨w'.heap.size, 1, none⟩ = some (.string f.2) := by simp [World.cell?, hbx5]
    have HS := Lib.hid hstep
    clear hstep hbx4 hbx5
    go_wp2_with fail
    go_quiet (fail)
    go_wp2_with fail
    go_ret3
    rw [HT.out]
    refine ⟨?_, HS.out.drewN _⟩
    simp only [takeRet, beq_toList]
    rfl
  · have hc0 : (c != 0) = true := by simpa using h0
    have HT : Hid (takeM peers L a b i = ((ByteArray.empty, false, c), L)) := by simp [Hid, takeM, hc, h0]
    clear hfind h hc hf h0
    go_enter Try.func30, Try.ntmps30
    go_wp2_with ((go_at_call 54; refine HF.out.mono ?_; rintro e w' ⟨rfl, hb⟩))
    go_ret3
    rw [HT.out]
    exact ⟨rfl, NetStep.same HH.out (hb.alloc hb.size _)⟩

def twiceM (peers : Int) (L : Int × Int → List Fr) (a b i : Int) : Int × (Int × Int → List Fr) :=
  if (findM peers L a b i).1 = 0 then (if (L (a, b)).length ≥ 8 then (4, L) else (0, upd L (a, b) (L (a, b) ++ [(findM peers L a b i).2]))) else ((findM peers L a b i).1, L)

set_option maxHeartbeats 2000000 in
set_option maxRecDepth 100000 in
theorem twice_net (h : IsNet n0 w O g peers L mb m) (a b i : Int) :
    Calls Try.prog 31 #[.pointer (some ⟨g, 0, none⟩), .int .i64 a, .int .i64 b, .int .i64 i] w fun e w' => e = .returned (.int .i64 (twiceM peers L a b i).1) ∧ NetStep n0 w O g peers (twiceM peers L a b i).2 mb w' := by
  have hfind := find_net h a b i
  unfold findRet at hfind
  obtain ⟨c, hc⟩ : ∃ c, (findM peers L a b i).1 = c := ⟨_, rfl⟩
  obtain ⟨f, hf⟩ : ∃ f, (findM peers L a b i).2 = f := ⟨_, rfl⟩
  rw [hc, hf] at hfind
  have HF := Lib.hid hfind
  have HH := Lib.hid h
  by_cases h0 : c = 0
  · subst h0
    obtain ⟨ht, n, rfl, hn, hfn⟩ := findM_zero hc
    have hm8 := h.most (a, b)
    have Hlist : Hid (∀ (w2 : World), Below w.heap.size w w2 → Calls Try.prog 50 #[.pointer (some ⟨g, 0, none⟩), .int .i64 a, .int .i64 b] w2 fun e w' => ∃ u, e = .returned u ∧ w2.ownsRow n0 94 2 u (L (a, b)).length (frCells (L (a, b))) ∧ (∀ k, u.ownBlock = some k → O k) ∧ w2 = w') :=
      fun w2 hb => list_net (h.moved (Moved.of_below O hb h.hn0)) a b ht
    by_cases h8 : (L (a, b)).length ≥ 8
    · have HT : Hid (twiceM peers L a b n = (4, L)) := by simp [Hid, twiceM, hc, h8]
      clear hfind h hc hf hfn ht
      go_enter Try.func31, Try.ntmps31
      go_wp2_with ((go_at_call 54; refine HF.out.mono ?_; rintro e w' ⟨rfl, hb⟩; obtain ⟨W2, hW2⟩ : ∃ W2, w'.alloc (.cells #[.string f.1, .string f.2] 94) = W2 := ⟨_, rfl⟩; have hb2 : Below w.heap.size w W2 := (by rw [← hW2]; exact hb.alloc hb.size _)))
      refine (Hlist.out W2 hb2).mono ?_
      rintro e w3 ⟨u, rfl, hrow, hO, rfl⟩
      obtain ⟨A, cc, rfl⟩ := own_shape hrow
      go_wp2_with fail
      go_ret
      rw [HT.out]
      exact ⟨rfl, NetStep.same HH.out hb2⟩
    · have HT : Hid (twiceM peers L a b n = (0, upd L (a, b) (L (a, b) ++ [f]))) := by simp [Hid, twiceM, hc, h8, hf]
      clear hfind h hc hf hfn ht
      go_enter Try.func31, Try.ntmps31
      go_wp2_with ((go_at_call 54; refine HF.out.mono ?_; rintro e w' ⟨rfl, hb⟩; obtain ⟨W2, hW2⟩ : ∃ W2, w'.alloc (.cells #[.string f.1, .string f.2] 94) = W2 := ⟨_, rfl⟩; have hb2 : Below w.heap.size w W2 := (by rw [← hW2]; exact hb.alloc hb.size _); have hbl : W2.heap[w'.heap.size]? = some (.cells #[.string f.1, .string f.2] 94 (0, 0)) := (by rw [← hW2]; exact World.alloc_heap_new _ _); have hltw : w'.heap.size < W2.heap.size := (Array.getElem?_eq_some_iff.1 hbl).1))
      refine (Hlist.out W2 hb2).mono ?_
      rintro e w3 ⟨u, rfl, hrow, hO, rfl⟩
      obtain ⟨A, cc, rfl⟩ := own_shape hrow
      have hclone : Hid (∀ W', Below W2.heap.size W2 W' → Calls Try.prog 53 #[.slice A (L (a, b)).length cc] W' fun e w' => ∃ v', e = .returned v' ∧ w'.ownsRow W2.heap.size 94 2 v' (L (a, b)).length (frCells (L (a, b))) ∧ Below W2.heap.size W2 w' ∧ ∀ p u, W'.cell? p = some u → w'.cell? p = some u) :=
        fun W' hB => (clone_Fr _ _ _ (frCells_one _) (by omega) W' ((Rd.of_own hrow).below hB)).mono fun e w3 ⟨v', h1, h2, h3⟩ => ⟨v', h1, own_lower h2 hB.size, hB.trans (h3.mono hB.size), fun p u hp => cell_below h3 hp⟩
      have d0 : W2.cell? ⟨w'.heap.size, 0, none⟩ = some (.string f.1) := by simp [World.cell?, hbl]
      have d1 : W2.cell? ⟨w'.heap.size, 1, none⟩ = some (.string f.2) := by simp [World.cell?, hbl]
      obtain ⟨i0, hi, hz0, hz1, hz2⟩ := info_parts info_Fr
      clear hrow hO hbl
      go_wp2_with fail
      have hent1 := enters_of Try.func53 (by kernel_rfl) rfl
      have hent2 := enters_of Try.func52 (by kernel_rfl) rfl
      have E1 := Lib.hid hent1
      have E2 := Lib.hid hent2
      clear hent1 hent2
      have hbd : Hid (Below W2.heap.size W2 W2.drew) := ⟨rfl, rfl, rfl, Nat.le_refl _, fun _ _ => rfl⟩
      have hl2 : (L (a, b)).length + 1 = (L (a, b) ++ [f]).length := by simp
      have hput : Hid (∀ (w3 : World) (gg cap : Nat), Below w.heap.size w w3 → w3.ownsRow W2.heap.size 94 2 (.slice (some ⟨gg, 0, none⟩) ((L (a, b)).length + 1) cap) ((L (a, b)).length + 1) (frCells (L (a, b)) ++ [.string f.1, .string f.2]) →
          Calls Try.prog 52 #[.pointer (some ⟨g, 0, none⟩), .agg #[.int .i64 a, .int .i64 b], .slice (some ⟨gg, 0, none⟩) ((L (a, b)).length + 1) cap] w3 fun e w' => e = .returned (.tuple #[]) ∧ NetStep n0 w O g peers (upd L (a, b) (L (a, b) ++ [f])) mb w') := by
        intro w3 gg cap hb3 hr
        rw [show frCells (L (a, b)) ++ [Value.string f.1, Value.string f.2] = frCells (L (a, b) ++ [f]) from by rw [frCells_append]; rfl] at hr
        refine (put_fresh HH.out hb3 a b _ (L (a, b) ++ [f]) (own_lower (by rw [← hl2]; exact hr) hb2.size) (by rw [← hl2]; omega)).mono ?_
        rintro e w4 ⟨rfl, hs, _⟩
        exact ⟨rfl, hs⟩
      have hsz2 := hb2.size
      clear hl2
      go_region_law (first
        | (refine step_call rfl 53 _ _ rfl E1.out #[.slice A (L (a, b)).length cc] (by simp [Act.eval, Act.put]) (hclone.out _ (by first | exact hbd.out | exact hbd.out.alloc (Nat.le_refl _) _)) ?_; rintro e w1 ⟨v1, rfl, hv1, hb1, hpres⟩; refine ⟨_, rfl, ?_⟩; have e0 := cell_below hb1 d0; have e1 := cell_below hb1 d1; have HPR := Lib.hid hpres; have hsz1 := hb1.size; clear hpres)
        | (refine step_append_lies _ rfl _ _ 87 rfl W2.heap.size 94 i0 (.agg #[.string ByteArray.empty, .string ByteArray.empty]) 2 32 Try.underlying87 hi hz0 hz1 hz2 rfl (by decide) v1 _ _ (by simp [Act.eval, Act.put]) (hv1.alloc _) ⟨w1.heap.size, 0, none⟩ 1 1 [.string f.1, .string f.2] (by simp [Act.eval, Act.put]) rfl (cells_new _ _ _) (by simp [Value.oneCell']) (by omega) (by unfold maxLen; omega) (by omega) (by simp; omega) (w1.heap.size + 1) (by simp) ?_; intro g' cap' w2 hown2 hgrow2 hlies2 hlt2; have hb3 : Below w.heap.size w w2 := ((hb2.trans (hb1.mono hsz2)).alloc (by omega) _).grown hgrow2 (by simp; omega) (fun k hk => by have := own_ge' hv1 k hk; omega))
        | (refine step_append_lies _ rfl _ _ 87 rfl W2.heap.size 94 i0 (.agg #[.string ByteArray.empty, .string ByteArray.empty]) 2 32 Try.underlying87 hi hz0 hz1 hz2 rfl (by decide) v1 _ _ (by simp [Act.eval, Act.put]) hv1 ⟨W2.heap.size, 0, none⟩ 1 1 [.string f.1, .string f.2] (by simp [Act.eval, Act.put]) rfl (fun j u h => HPR.out _ _ (cells_new W2.drew _ _ j u h)) (by simp [Value.oneCell']) (by omega) (by unfold maxLen; omega) (by omega) (by omega) w1.heap.size rfl ?_; intro g' cap' w2 hown2 hgrow2 hlies2 hlt2; have hb3 : Below w.heap.size w w2 := (hb2.trans (hb1.mono hsz2)).grown hgrow2 (by omega) (fun k hk => by have := own_ge' hv1 k hk; omega))
        | (refine step_call rfl 52 _ _ rfl E2.out #[.pointer (some ⟨g, 0, none⟩), .agg #[.int .i64 a, .int .i64 b], .slice (some ⟨g', 0, none⟩) ((L (a, b)).length + 1) cap'] (by simp [Act.eval, Act.put]) (hput.out _ _ _ hb3 hown2) ?_; rintro e w5 ⟨rfl, hstep⟩; refine ⟨_, rfl, ?_⟩))
      all_goals
        have HS := Lib.hid hstep
        clear hstep
        go_wp2_with fail
        go_ret
        rw [HT.out]
        exact ⟨rfl, HS.out⟩
  · have hc0 : (c != 0) = true := by simpa using h0
    have HT : Hid (twiceM peers L a b i = (c, L)) := by simp [Hid, twiceM, hc, h0]
    clear hfind h hc hf h0
    go_enter Try.func31, Try.ntmps31
    go_wp2_with ((go_at_call 54; refine HF.out.mono ?_; rintro e w' ⟨rfl, hb⟩))
    go_ret
    rw [HT.out]
    exact ⟨rfl, NetStep.same HH.out (hb.alloc hb.size _)⟩
end
end Go.Proofs.Ytnnmhpplmihidaa
