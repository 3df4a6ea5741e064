/- The document's Twice. -/
import Derived.Deep.QuietTactic
import Derived.BigQuiet
import Derived.Deep.RegionLaw
import Derived.Deep.Cut
import Derived.Test.YtnnmhpplmihidaaStep
import Derived.Test.YtnnmhpplmihidaaRefRow
namespace Go.Proofs.Ytnnmhpplmihidaa
set_option linter.unusedVariables false
set_option linter.unusedSimpArgs false
open PLinkPlays Go.RowKit Go.Proofs.YtnnmhpplmihidaaW.PrintWords

/-- What the document's net has behind a call that writes nothing that was there. -/
def RefRet (w : World) (base : Nat) (P : Int) (vM : Value) (L' : Int × Int → List Fr) (n' : Nat) (e : Ending) (w' : World) (r : Int) : Prop :=
  ∃ (v' : Value) (M' : List RF), e = .returned (.tuple #[.agg #[.int .i64 P, v'], .int .i64 r]) ∧ w'.ownsRow base 52 4 v' M'.length (rfCells M') ∧ (v' = vM ∨ ∀ k, v'.ownBlock = some k → w.heap.size ≤ k) ∧ Ok P M' L' n' ∧ Below w.heap.size w w'

theorem Ok.up {P : Int} {M : List RF} {L : Int × Int → List Fr} {n : Nat} (h : Ok P M L n) : Ok P M L (n + 1) := ⟨h.rel, Nat.le_succ_of_le h.len, h.there, h.size⟩
theorem RefRet.same {w : World} {base : Nat} {P : Int} {vM : Value} {M : List RF} {L : Int × Int → List Fr} {n : Nat} (h : Ok P M L n) (hrow : w.ownsRow base 52 4 vM M.length (rfCells M)) {w' : World} (hb : Below w.heap.size w w') (r : Int) :
    RefRet w base P vM L n (.returned (.tuple #[.agg #[.int .i64 P, vM], .int .i64 r])) w' r :=
  ⟨vM, M, rfl, own_keep hrow (fun k hk => hb.block k (own_lt' hrow k hk)), .inl rfl, h, hb⟩

theorem own_empty {w : World} {base g : Nat} {e : TypeId} (sz : Nat) (hb : base ≤ g) (h : w.heap[g]? = some (.cells #[] e (0, 0))) : w.ownsRow base e sz (.slice (some ⟨g, 0, none⟩) 0 0) 0 [] :=
  ⟨by simp, .inr ⟨g, 0, #[], rfl, hb, h, Nat.le_refl _, by simp [maxLen], by simp, by simp⟩⟩

/-- The document's net while a copy of its row is made: n's box (at block B), its row (at block g), and all that is older than w3. -/
structure TwSt (w3 : World) (B R base g c : Nat) (P : Int) (M : List RF) (X : World) : Prop where
  box : X.heap[B]? = some (.cells #[.int .i64 P, .slice (some ⟨g, 0, none⟩) M.length c] 60 (0, 0))
  out : X.heap[R]? = some (.cells #[.int .i64 0, .slice none 0 0] 60 (0, 0))
  row : X.ownsRow base 52 4 (.slice (some ⟨g, 0, none⟩) M.length c) M.length (rfCells M)
  bel : Below w3.heap.size w3 X

theorem TwSt.move {w3 X Y : World} {B R base g c : Nat} {P : Int} {M : List RF} (h : TwSt w3 B R base g c P M X) (hb : Below w3.heap.size X Y) (hg : Y.heap[g]? = X.heap[g]?) (hB : Y.heap[B]? = X.heap[B]?) (hR : Y.heap[R]? = X.heap[R]?) : TwSt w3 B R base g c P M Y :=
  ⟨hB.trans h.box, hR.trans h.out, own_keep h.row (fun k hk => by simp [Value.ownBlock] at hk; subst hk; exact hg), h.bel.trans hb⟩

theorem TwSt.below {w3 X Y : World} {B R base g c : Nat} {P : Int} {M : List RF} (h : TwSt w3 B R base g c P M X) (hb : Below X.heap.size X Y) : TwSt w3 B R base g c P M Y :=
  h.move (hb.mono h.bel.size) (hb.block _ (own_lt' h.row g rfl)) (hb.block _ (Array.getElem?_eq_some_iff.1 h.box).1) (hb.block _ (Array.getElem?_eq_some_iff.1 h.out).1)

theorem TwSt.facts {w3 X : World} {B R base g c : Nat} {P : Int} {M MA MB : List RF} {x : RF} (h : TwSt w3 B R base g c P M X) (hM : M = MA ++ x :: MB) :
    X.cell? ⟨B, 0, none⟩ = some (.int .i64 P) ∧ X.cell? ⟨B, 1, none⟩ = some (.slice (some ⟨g, 0, none⟩) M.length c) ∧ X.frozen? ⟨B, 0, none⟩ = false ∧ X.frozen? ⟨B, 1, none⟩ = false ∧
    X.cell? ⟨g, MA.length * 4, none⟩ = some (.int .i64 x.f0) ∧ X.cell? ⟨g, MA.length * 4 + 1, none⟩ = some (.int .i64 x.f1) ∧ X.cell? ⟨g, MA.length * 4 + 2, none⟩ = some (.string x.f2) ∧ X.cell? ⟨g, MA.length * 4 + 3, none⟩ = some (.string x.f3) := by
  have hb := h.box
  have hl : MA.length < M.length := by rw [hM]; simp
  have hx : M[MA.length] = x := by simp [hM]
  have k : ∀ q, q < 4 → X.cell? ⟨g, MA.length * 4 + q, none⟩ = (rf x)[q]? := by
    intro q hq
    rw [h.row.cellAt _ (by omega), rfCells_at M _ hl q hq, hx]
  refine ⟨by simp [World.cell?, hb], by simp [World.cell?, hb], by simp [World.frozen?, hb], by simp [World.frozen?, hb], k 0 (by omega), k 1 (by omega), k 2 (by omega), k 3 (by omega)⟩

theorem TwSt.lt {w3 X : World} {B R base g c : Nat} {P : Int} {M : List RF} (h : TwSt w3 B R base g c P M X) : B < X.heap.size := (Array.getElem?_eq_some_iff.1 h.box).1

theorem TwSt.cells {w3 X : World} {B R base g c : Nat} {P : Int} {M : List RF} (h : TwSt w3 B R base g c P M X) (j : Nat) (u : Value) (hu : (rfCells M)[j]? = some u) : X.cell? ((⟨g, 0, none⟩ : Addr).add j) = some u := by
  have hj : j < M.length * 4 := by
    rw [← rfCells_length]
    exact (List.getElem?_eq_some_iff.1 hu).1
  rw [addr_add, h.row.cellAt _ hj, hu]

theorem TwSt.grow {w3 X X' Y : World} {B R base g c E : Nat} {P : Int} {M : List RF} (hg : X'.grownBy Y (some E)) (h : TwSt w3 B R base g c P M X) (hX : Below X.heap.size X X') (hE : w3.heap.size ≤ E) (hgE : g ≠ E) (hBE : B ≠ E) (hRE : R ≠ E) : TwSt w3 B R base g c P M Y := by
  have h' := h.below hX
  have hsz := h'.bel.size
  refine h'.move ⟨hg.os, hg.tape, hg.output, hg.size, fun k hk => hg.block k (by omega) (by simp; omega)⟩ (hg.block _ (own_lt' h'.row g rfl) (by simpa using hgE)) (hg.block _ (Array.getElem?_eq_some_iff.1 h'.box).1 (by simpa using hBE)) (hg.block _ (Array.getElem?_eq_some_iff.1 h'.out).1 (by simpa using hRE))

theorem rfCells_one (M : List RF) : ∀ u ∈ rfCells M, u.oneCell' = true := by
  intro u hu
  simp only [rfCells, List.mem_flatMap] at hu
  obtain ⟨f, _, hf⟩ := hu
  simp [rf] at hf
  rcases hf with rfl | rfl | rfl | rfl <;> rfl

theorem twice_end {w w2 w3 w6 : World} {base B R g c g5 cap5 n : Nat} {P a b : Int} {M MA MB : List RF} {x : RF} {L : Int × Int → List Fr} {vM : Value} (hok : Ok P M L n) (ht : thereB P a b = true) (hx : onK a b x = true) (hM : M = MA ++ x :: MB) (hbase : base ≤ w.heap.size)
    (hb3 : Below w.heap.size w w3) (hs2 : w2.heap.size = w.heap.size + 2) (hs3 : w2.heap.size ≤ w3.heap.size) (st : TwSt w3 B R base g c P M w6) (hown : w6.ownsRow w.heap.size 52 4 (.slice (some ⟨g5, 0, none⟩) (M.length + 1) cap5) (M.length + 1) (rfCells M ++ rf x)) (hB : w.heap.size ≤ B) (hR : w.heap.size ≤ R) (u1 u2 u3 : Value) :
    RefRet w base P vM (upd L (a, b) (L (a, b) ++ [fr x])) (n + 1) (.returned (.tuple #[.agg #[.int .i64 P, .slice (some ⟨g5, 0, none⟩) (M.length + 1) cap5], .int .i64 0])) (((w6.setCell ⟨B, 1, none⟩ u1).setCell ⟨R, 0, none⟩ u2).setCell ⟨R, 1, none⟩ u3) 0 := by
  obtain ⟨cs, hcs⟩ := own_cells' hown g5 rfl
  have hgB : g5 ≠ B := by
    intro e
    subst e
    rw [st.box] at hcs
    simp at hcs
  have hgR : g5 ≠ R := by
    intro e
    subst e
    rw [st.out] at hcs
    simp at hcs
  have hxs : x.f2.size ≤ 131072 := hok.size x (by rw [hM]; simp)
  have hb6 : Below w.heap.size w w6 := hb3.trans (st.bel.mono (by omega))
  refine ⟨_, M ++ [x], rfl, ?_, .inr fun k hk => ?_, hok.append x a b hx ht hxs, ?_⟩
  · rw [List.length_append, rfCells_append]
    have e : rfCells [x] = rf x := by simp [rfCells]
    rw [e]
    refine own_lower (own_keep hown (fun k hk => ?_)) hbase
    simp [Value.ownBlock] at hk
    subst hk
    rw [Below.heap_setCell _ _ _ _ (by simpa using hgR), Below.heap_setCell _ _ _ _ (by simpa using hgR), Below.heap_setCell _ _ _ _ (by simpa using hgB)]
  · exact own_ge' hown k hk
  · exact ((hb6.setCell (p := ⟨B, 1, none⟩) hB u1).setCell (p := ⟨R, 0, none⟩) hR u2).setCell (p := ⟨R, 1, none⟩) hR u3

set_option maxHeartbeats 4000000 in
set_option maxRecDepth 100000 in
theorem twice_ref (w : World) (base : Nat) (hbase : base ≤ w.heap.size) {P : Int} {M : List RF} {L : Int × Int → List Fr} {n : Nat} (h : Ok P M L n) (hn : n < 999) (A : Option Addr) (c : Nat) (hrow : w.ownsRow base 52 4 (.slice A M.length c) M.length (rfCells M)) (a b i : Int) (hi : i < 9223372036854775808) :
    Calls Try.prog 35 #[.agg #[.int .i64 P, .slice A M.length c], .int .i64 a, .int .i64 b, .int .i64 i] w fun e w' => RefRet w base P (.slice A M.length c) (twiceM P L a b i).2 (n + 1) e w' (twiceM P L a b i).1 := by
  obtain ⟨W1, hW1⟩ : ∃ W, w.alloc (.cells #[.int .i64 P, .slice A M.length c] 60) = W := ⟨_, rfl⟩
  have hs1 : W1.heap.size = w.heap.size + 1 := by rw [← hW1]; simp
  have hbl1 : W1.heap[w.heap.size]? = some (.cells #[.int .i64 P, .slice A M.length c] 60 (0, 0)) := by rw [← hW1]; exact World.alloc_heap_new _ _
  obtain ⟨W2, hW2⟩ : ∃ W, W1.alloc (.cells #[.int .i64 0, .slice none 0 0] 60) = W := ⟨_, rfl⟩
  have hs2 : W2.heap.size = w.heap.size + 2 := by rw [← hW2]; simp [hs1]
  have hbl2 : W2.heap[W1.heap.size]? = some (.cells #[.int .i64 0, .slice none 0 0] 60 (0, 0)) := by rw [← hW2]; exact World.alloc_heap_new _ _
  have hbl1' : W2.heap[w.heap.size]? = some (.cells #[.int .i64 P, .slice A M.length c] 60 (0, 0)) := by rw [← hW2, Below.heap_alloc _ _ _ (by omega)]; exact hbl1
  have hb2 : Below w.heap.size w W2 := by rw [← hW2, ← hW1]; exact ((Below.refl _ _).alloc (Nat.le_refl _) _).alloc (by simp) _
  have hrow2 : W2.ownsRow base 52 4 (.slice A M.length c) M.length (rfCells M) := own_keep hrow (fun k hk => hb2.block k (own_lt' hrow k hk))
  obtain ⟨hlc, hC⟩ := toC hrow2
  have hmay := may_eval 10000 (by omega) h (by omega) a b i hi
  have HMAY := Lib.hid (hearsayref26_may.calls 10000 P A c M a b i _ W2 hC hlc hmay)
  obtain ⟨e1, he1⟩ : ∃ e, (findM P L a b i).1 = e := ⟨_, rfl⟩
  rw [he1] at HMAY
  have b0 : W2.cell? ⟨w.heap.size, 0, none⟩ = some (.int .i64 P) := by simp [World.cell?, hbl1']
  have b1 : W2.cell? ⟨w.heap.size, 1, none⟩ = some (.slice A M.length c) := by simp [World.cell?, hbl1']
  have HS := Lib.hid (And.intro hs1 hs2)
  have HBL2 := Lib.hid hbl2
  have HBL1 := Lib.hid hbl1'
  have HB2 := Lib.hid hb2
  have HRW := Lib.hid hrow
  have HROW := Lib.hid hrow2
  have HOK := Lib.hid h
  have HLC := Lib.hid hlc
  have HC := Lib.hid hC
  clear hs1 hbl1 hs2 hbl2 hbl1' hb2 hrow hrow2 h hlc hC hmay
  have hafter : ∀ w3, Below W2.heap.size W2 w3 → w3.heap[W1.heap.size]? = some (.cells #[.int .i64 0, .slice none 0 0] 60 (0, 0)) := fun w3 hb3 => (hb3.block _ (by have := HS.out; omega)).trans HBL2.out
  have HAF := Lib.hid hafter
  clear hafter
  go_enter Try.func35, Try.ntmps35
  go_wp2_with fail
  refine HMAY.out.mono ?_
  rintro e w3 ⟨rfl, hb3⟩
  have b0 := cell_below hb3 b0
  have b1 := cell_below hb3 b1
  have hcc := HAF.out _ hb3
  have c0 : w3.cell? ⟨W1.heap.size, 0, none⟩ = some (.int .i64 0) := by simp [World.cell?, hcc]
  have c1 : w3.cell? ⟨W1.heap.size, 1, none⟩ = some (.slice none 0 0) := by simp [World.cell?, hcc]
  have f0 : w3.frozen? ⟨W1.heap.size, 0, none⟩ = false := by simp [World.frozen?, hcc]
  have f1 : w3.frozen? ⟨W1.heap.size, 1, none⟩ = false := by simp [World.frozen?, hcc]
  have HB3 := Lib.hid hb3
  have HC3 := Lib.hid (Kd.C_below HC.out hb3)
  clear hcc hb3 HMAY
  by_cases h0 : e1 = 0
  · subst h0
    have HLEN := Lib.hid (hearsayref26_Len.calls 10000 P A c M a b _ w3 HC3.out HLC.out (len_f 10000 P M a b (by have := HOK.out.len; omega) (by omega)))
    rw [filter_len HOK.out] at HLEN
    obtain ⟨len, hlen⟩ : ∃ len, (L (a, b)).length = len := ⟨_, rfl⟩
    rw [hlen] at HLEN
    by_cases h8 : len ≥ 8
    · have HT : Hid (twiceM P L a b i = (4, L)) := by simp [Hid, twiceM, he1, hlen, h8]
      have h8' : (8 : Int) ≤ len := by omega
      clear he1 hlen
      go_wp2_with fail
      refine HLEN.out.mono ?_
      rintro e w4 ⟨rfl, hb4⟩
      have b0 := cell_below hb4 b0
      have b1 := cell_below hb4 b1
      have hcc := HAF.out w4 (HB3.out.trans (hb4.mono HB3.out.size))
      have c0 : w4.cell? ⟨W1.heap.size, 0, none⟩ = some (.int .i64 0) := by simp [World.cell?, hcc]
      have c1 : w4.cell? ⟨W1.heap.size, 1, none⟩ = some (.slice none 0 0) := by simp [World.cell?, hcc]
      have f0 : w4.frozen? ⟨W1.heap.size, 0, none⟩ = false := by simp [World.frozen?, hcc]
      have f1 : w4.frozen? ⟨W1.heap.size, 1, none⟩ = false := by simp [World.frozen?, hcc]
      have HB4 := Lib.hid (HB3.out.trans (hb4.mono HB3.out.size))
      clear hcc hb4
      go_wp2_with fail
      refine bodyPost_ret (v := .tuple #[.agg #[.int .i64 P, .slice A M.length c], .int .i64 4]) (by simp [results, Try.results35, go_sem, b0, b1, c0, c1]; try rfl) rfl ?_
      rw [HT.out]
      refine RefRet.same HOK.out.up HRW.out ?_ _
      exact ((HB2.out.trans (HB4.out.mono HB2.out.size)).setCell (p := ⟨W1.heap.size, 0, none⟩) (by have := HS.out; simp; omega) _).setCell (p := ⟨W1.heap.size, 1, none⟩) (by have := HS.out; simp; omega) _
    · have h8' : ¬ (8 : Int) ≤ len := by omega
      obtain ⟨ht, j, MA, MB, x, rfl, hf, hM, hx, hA, hfx⟩ := findM_find HOK.out he1
      have HT : Hid (twiceM P L a b j = (0, upd L (a, b) (L (a, b) ++ [fr x]))) := by simp [Hid, twiceM, he1, hlen, h8, hfx]
      have hMl := HOK.out.len
      have hfind : ∀ (w5 : World), Below w3.heap.size w3 w5 → Calls Try.prog 58 #[.agg #[.int .i64 P, .slice A M.length c], .int .i64 a, .int .i64 b, .int .i64 j] w5 fun e w' => e = .returned (.int .i64 MA.length) ∧ Below w5.heap.size w5 w' := by
        intro w5 hb5
        have := hearsayref26_find.calls 10000 P A c M a b j _ w5 (Kd.C_below HC3.out hb5) HLC.out (find_f 10000 P M a b j (by omega) (by omega) (by omega))
        rw [findI, hf] at this
        exact this
      have HFI := Lib.hid hfind
      clear hi
      have HTH := Lib.hid ht
      have HM := Lib.hid hM
      have HX := Lib.hid hx
      have HML := Lib.hid hMl
      clear he1 hlen ht hf hM hx hA hfx hfind hMl
      go_wp2_with fail
      refine HLEN.out.mono ?_
      rintro e w4 ⟨rfl, hb4⟩
      have b0 := cell_below hb4 b0
      have b1 := cell_below hb4 b1
      have HB34 := Lib.hid hb4
      have HB4 := Lib.hid (HB3.out.trans (hb4.mono HB3.out.size))
      have hrow4 := own_keep HROW.out (fun k hk => HB4.out.block k (own_lt' HROW.out k hk))
      have HR4 := Lib.hid hrow4
      have hMne : 0 < M.length := by rw [HM.out]; simp; omega
      obtain ⟨G, cG, hAe⟩ := own_some hrow4 hMne
      cases hAe
      have hbox4 : w4.heap[w.heap.size]? = some (.cells #[.int .i64 P, .slice (some ⟨G, 0, none⟩) M.length c] 60 (0, 0)) := (HB4.out.block _ (by have := HS.out; omega)).trans HBL1.out
      have st4 : TwSt w3 w.heap.size W1.heap.size base G c P M w4 := ⟨hbox4, HAF.out _ HB4.out, hrow4, hb4⟩
      have hs4 := HB4.out.size
      have hlt4 : w.heap.size < w4.heap.size := by have := HS.out; omega
      obtain ⟨W5, hW5⟩ : ∃ W, w4.alloc (.cells #[] 52) = W := ⟨_, rfl⟩
      have he5 : W5.heap[w4.heap.size]? = some (.cells #[] 52 (0, 0)) := by rw [← hW5]; exact World.alloc_heap_new _ _
      have st : TwSt w3 w.heap.size W1.heap.size base G c P M W5 := by rw [← hW5]; exact st4.below ((Below.refl _ _).alloc (Nat.le_refl _) _)
      have HE := Lib.hid he5
      have hin : (MA.length : Int) < M.length := by rw [HM.out]; simp; omega
      have hin0 : (0 : Int) ≤ MA.length := by omega
      have HLT4 := Lib.hid hlt4
      obtain ⟨i0, hi, hz0, hz1, hz2⟩ := info_parts info_FV
      have HI := Lib.hid (And.intro hi (And.intro hz0 (And.intro hz1 hz2)))
      obtain ⟨b0, b1, f0, f1, x0, x1, x2, x3⟩ := st.facts HM.out
      have b0' := (st4.facts HM.out).1
      have b1' := (st4.facts HM.out).2.1
      clear hb4 hrow4 c0 c1 f0 f1 HLEN hi hz0 hz1 hz2 hMne hbox4 hs4 he5 st4
      go_upto_region 6 with fail
      have hent1 := enters_of Try.func58 (by kernel_rfl) rfl
      have E1 := Lib.hid hent1
      clear hent1
      have hG4 : G < w4.heap.size := own_lt' HR4.out G rfl
      have HG4 := Lib.hid hG4
      have hW5s : W5.heap.size = w4.heap.size + 1 := by rw [← hW5]; simp
      have HW5 := Lib.hid hW5s
      have h34 := HB34.out.size
      have H34 := Lib.hid h34
      have hMpos : 0 < M.length := by omega
      have HMP := Lib.hid hMpos
      have hre : W1.heap.size ≠ w4.heap.size := by have := HS.out; have := HB4.out.size; omega
      have HRE := Lib.hid hre
      clear hre
      clear hG4 hW5s h34 hMpos
      go_region_law (first
        | (refine step_call rfl 58 _ _ rfl E1.out #[.agg #[.int .i64 P, .slice (some ⟨G, 0, none⟩) M.length c], .int .i64 a, .int .i64 b, .int .i64 j] (by simp [Act.eval, Act.put]) (HFI.out _ (st.bel.trans ⟨rfl, rfl, rfl, Nat.le_refl _, fun _ _ => rfl⟩)) ?_; rintro e w1 ⟨rfl, hbc⟩; refine ⟨_, rfl, ?_⟩; have st := st.below hbc; obtain ⟨b0, b1, f0, f1, x0, x1, x2, x3⟩ := st.facts HM.out; have HBC := Lib.hid hbc; clear hbc; (first | have HNEW := Lib.hid (own_keep HNEW.out (fun k hk => HBC.out.block k (own_lt' HNEW.out k hk))) | skip); (first | have HE := Lib.hid ((HBC.out.block _ (Array.getElem?_eq_some_iff.1 HE.out).1).trans HE.out) | skip))
        | (refine step_append_lies _ rfl _ _ 47 rfl w.heap.size 52 i0 (.agg #[.int .i64 0, .int .i64 0, .string ByteArray.empty, .string ByteArray.empty]) 4 48 Try.underlying47 HI.out.1 HI.out.2.1 HI.out.2.2.1 HI.out.2.2.2 rfl (by decide) (.slice (some ⟨w4.heap.size, 0, none⟩) 0 0) 0 [] (by simp [Act.eval, Act.put]) (own_empty 4 (Nat.le_of_lt HLT4.out) HE.out) ⟨G, 0, none⟩ M.length c (rfCells M) (by simp [Act.eval, Act.put]) (rfCells_length M) st.cells (rfCells_one M) HMP.out (by have := HML.out; unfold maxLen; omega) (by have := HML.out; omega) (Nat.le_of_lt st.lt) _ rfl ?_; intro g1 cap1 w2 hown2 hgr2 hlies2 hlt2; have st := TwSt.grow hgr2 st ⟨rfl, rfl, rfl, Nat.le_refl _, fun _ _ => rfl⟩ H34.out (Nat.ne_of_lt HG4.out) (Nat.ne_of_lt HLT4.out) HRE.out; obtain ⟨b0, b1, f0, f1, x0, x1, x2, x3⟩ := st.facts HM.out; have HNEW := Lib.hid hown2; have HG1 : Hid (w4.heap.size ≤ g1) := hlies2.elim (fun e => by have e2 : w4.heap.size = g1 := (by simpa [Value.ownBlock] using e); exact Nat.le_of_eq e2) (fun e => by rw [e]; exact Nat.le_of_lt (Array.getElem?_eq_some_iff.1 HE.out).1); clear hown2 hgr2 hlies2 hlt2)
        | (refine step_append_lies (w1.alloc (.cells #[.int .i64 x.f0, .int .i64 x.f1, .string x.f2, .string x.f3] 52)) rfl _ _ 47 rfl w.heap.size 52 i0 (.agg #[.int .i64 0, .int .i64 0, .string ByteArray.empty, .string ByteArray.empty]) 4 48 Try.underlying47 HI.out.1 HI.out.2.1 HI.out.2.2.1 HI.out.2.2.2 rfl (by decide) (.slice (some ⟨w4.heap.size, 0, none⟩) 0 0) 0 [] (by simp [Act.eval, Act.put]) (own_empty 4 (Nat.le_of_lt HLT4.out) ((Below.heap_alloc w1 _ _ (Array.getElem?_eq_some_iff.1 HE.out).1).trans HE.out)) ⟨G, 0, none⟩ M.length c (rfCells M) (by simp [Act.eval, Act.put]) (rfCells_length M) (st.below ((Below.refl w1.heap.size w1).alloc (Nat.le_refl _) (.cells #[.int .i64 x.f0, .int .i64 x.f1, .string x.f2, .string x.f3] 52))).cells (rfCells_one M) HMP.out (by have := HML.out; unfold maxLen; omega) (by have := HML.out; omega) (Nat.le_of_lt (st.below ((Below.refl w1.heap.size w1).alloc (Nat.le_refl _) (.cells #[.int .i64 x.f0, .int .i64 x.f1, .string x.f2, .string x.f3] 52))).lt) _ rfl ?_; intro g1 cap1 w2 hown2 hgr2 hlies2 hlt2; have st := TwSt.grow hgr2 st ((Below.refl w1.heap.size w1).alloc (Nat.le_refl _) (.cells #[.int .i64 x.f0, .int .i64 x.f1, .string x.f2, .string x.f3] 52)) H34.out (Nat.ne_of_lt HG4.out) (Nat.ne_of_lt HLT4.out) HRE.out; obtain ⟨b0, b1, f0, f1, x0, x1, x2, x3⟩ := st.facts HM.out; have HNEW := Lib.hid hown2; have HG1 : Hid (w4.heap.size ≤ g1) := hlies2.elim (fun e => by have e2 : w4.heap.size = g1 := (by simpa [Value.ownBlock] using e); exact Nat.le_of_eq e2) (fun e => by rw [e]; exact Nat.le_trans (Nat.le_of_lt (Array.getElem?_eq_some_iff.1 HE.out).1) (by simp)); have HXB : Hid (∀ j u, (rf x)[j]? = some u → w2.cell? ((⟨w1.heap.size, 0, none⟩ : Addr).add j) = some u) := fun j u hu => (by have h5 := cells_new w1 (rf x) 52 j u hu; rw [addr_add] at h5 ⊢; unfold World.cell? at h5 ⊢; have h6 := (Array.getElem?_eq_some_iff.1 HE.out).1; rw [hgr2.block _ (by simp) (by simp; omega)]; exact h5); clear hown2 hgr2 hlies2 hlt2)
        | (refine step_append_lies _ rfl _ _ 47 rfl w.heap.size 52 i0 (.agg #[.int .i64 0, .int .i64 0, .string ByteArray.empty, .string ByteArray.empty]) 4 48 Try.underlying47 HI.out.1 HI.out.2.1 HI.out.2.2.1 HI.out.2.2.2 rfl (by decide) (.slice (some ⟨g1, 0, none⟩) (0 + M.length) cap1) (0 + M.length) ([] ++ rfCells M) (by simp [Act.eval, Act.put]) (HNEW.out.alloc _) ⟨w1.heap.size, 0, none⟩ 1 1 (rf x) (by simp [Act.eval, Act.put]) rfl (cells_new _ _ _) (by simp [rf, Value.oneCell']) (by omega) (by have := HML.out; unfold maxLen; omega) (by have := HML.out; omega) (Nat.le_of_lt (st.below ((Below.refl _ _).alloc (Nat.le_refl _) _)).lt) _ rfl ?_; intro g5 cap5 w6 hown6 hgr6 hlies6 hlt6; have st := TwSt.grow (E := g1) hgr6 st ((Below.refl _ _).alloc (Nat.le_refl _) _) (Nat.le_trans H34.out HG1.out) (Nat.ne_of_lt (Nat.lt_of_lt_of_le HG4.out HG1.out)) (Nat.ne_of_lt (Nat.lt_of_lt_of_le HLT4.out HG1.out)) (fun e => by have h1 := HG1.out; have h2 := HS.out; have h3 := HLT4.out; have h4 := HRE.out; omega); obtain ⟨b0, b1, f0, f1, x0, x1, x2, x3⟩ := st.facts HM.out; have HN6 := Lib.hid hown6; have HL6 := Lib.hid hlies6; have HT6 := Lib.hid hlt6; clear hown6 hgr6 hlies6 hlt6)
        | (refine step_append_lies _ rfl _ _ 47 rfl w.heap.size 52 i0 (.agg #[.int .i64 0, .int .i64 0, .string ByteArray.empty, .string ByteArray.empty]) 4 48 Try.underlying47 HI.out.1 HI.out.2.1 HI.out.2.2.1 HI.out.2.2.2 rfl (by decide) (.slice (some ⟨g1, 0, none⟩) (0 + M.length) cap1) (0 + M.length) ([] ++ rfCells M) (by simp [Act.eval, Act.put]) (HNEW.out.alloc _) ⟨w2.heap.size, 0, none⟩ 1 1 (rf x) (by simp [Act.eval, Act.put]) rfl (cells_new _ _ _) (by simp [rf, Value.oneCell']) (by omega) (by have := HML.out; unfold maxLen; omega) (by have := HML.out; omega) (Nat.le_of_lt (st.below ((Below.refl _ _).alloc (Nat.le_refl _) _)).lt) _ rfl ?_; intro g5 cap5 w6 hown6 hgr6 hlies6 hlt6; have st := TwSt.grow (E := g1) hgr6 st ((Below.refl _ _).alloc (Nat.le_refl _) _) (Nat.le_trans H34.out HG1.out) (Nat.ne_of_lt (Nat.lt_of_lt_of_le HG4.out HG1.out)) (Nat.ne_of_lt (Nat.lt_of_lt_of_le HLT4.out HG1.out)) (fun e => by have h1 := HG1.out; have h2 := HS.out; have h3 := HLT4.out; have h4 := HRE.out; omega); obtain ⟨b0, b1, f0, f1, x0, x1, x2, x3⟩ := st.facts HM.out; have HN6 := Lib.hid hown6; have HL6 := Lib.hid hlies6; have HT6 := Lib.hid hlt6; clear hown6 hgr6 hlies6 hlt6)
        | (refine step_append_lies _ rfl _ _ 47 rfl w.heap.size 52 i0 (.agg #[.int .i64 0, .int .i64 0, .string ByteArray.empty, .string ByteArray.empty]) 4 48 Try.underlying47 HI.out.1 HI.out.2.1 HI.out.2.2.1 HI.out.2.2.2 rfl (by decide) (.slice (some ⟨g1, 0, none⟩) (0 + M.length) cap1) (0 + M.length) ([] ++ rfCells M) (by simp [Act.eval, Act.put]) HNEW.out ⟨w1.heap.size, 0, none⟩ 1 1 (rf x) (by simp [Act.eval, Act.put]) rfl HXB.out (by simp [rf, Value.oneCell']) (by omega) (by have := HML.out; unfold maxLen; omega) (by have := HML.out; omega) (Nat.le_of_lt st.lt) _ rfl ?_; intro g5 cap5 w6 hown6 hgr6 hlies6 hlt6; have st := TwSt.grow (E := g1) hgr6 st (Below.refl _ _) (Nat.le_trans H34.out HG1.out) (Nat.ne_of_lt (Nat.lt_of_lt_of_le HG4.out HG1.out)) (Nat.ne_of_lt (Nat.lt_of_lt_of_le HLT4.out HG1.out)) (fun e => by have h1 := HG1.out; have h2 := HS.out; have h3 := HLT4.out; have h4 := HRE.out; omega); obtain ⟨b0, b1, f0, f1, x0, x1, x2, x3⟩ := st.facts HM.out; have HN6 := Lib.hid hown6; have HL6 := Lib.hid hlies6; have HT6 := Lib.hid hlt6; clear hown6 hgr6 hlies6 hlt6))
      all_goals
        have hcc := st.out
        have c0 : w6.cell? ⟨W1.heap.size, 0, none⟩ = some (.int .i64 0) := by simp [World.cell?, hcc]
        have c1 : w6.cell? ⟨W1.heap.size, 1, none⟩ = some (.slice none 0 0) := by simp [World.cell?, hcc]
        have z0 : w6.frozen? ⟨W1.heap.size, 0, none⟩ = false := by simp [World.frozen?, hcc]
        have z1 : w6.frozen? ⟨W1.heap.size, 1, none⟩ = false := by simp [World.frozen?, hcc]
        clear hcc
        have hne : W1.heap.size ≠ w.heap.size := by have := HS.out; omega
        have c0' : (w6.setCell ⟨w.heap.size, 1, none⟩ (.slice (some ⟨g5, 0, none⟩) (M.length + 1) cap5)).cell? ⟨W1.heap.size, 0, none⟩ = some (.int .i64 0) := by rw [World.cell?_setCell_other _ _ _ _ (by simp [hne, Ne.symm hne])]; exact c0
        have c1' : (w6.setCell ⟨w.heap.size, 1, none⟩ (.slice (some ⟨g5, 0, none⟩) (M.length + 1) cap5)).cell? ⟨W1.heap.size, 1, none⟩ = some (.slice none 0 0) := by rw [World.cell?_setCell_other _ _ _ _ (by simp [hne, Ne.symm hne])]; exact c1
        clear hne
        go_wp2_with fail
        refine bodyPost_ret (v := .tuple #[.agg #[.int .i64 P, .slice (some ⟨g5, 0, none⟩) (M.length + 1) cap5], .int .i64 0]) (by simp [results, Try.results35, go_sem, c0', c1']; try rfl) rfl ?_
        rw [HT.out]
        exact twice_end HOK.out HTH.out HX.out HM.out hbase (HB2.out.trans (HB3.out.mono HB2.out.size)) HS.out.2 HB3.out.size st (by have h5 := HN6.out; rw [Nat.zero_add, List.nil_append] at h5; exact h5) (Nat.le_refl _) (by have := HS.out; omega) _ _ _
  · have HT : Hid (twiceM P L a b i = (e1, L)) := by simp [Hid, twiceM, he1, h0]
    have h0' : ¬ (0 : Int) = e1 := fun h => h0 h.symm
    clear he1
    go_wp2_with fail
    refine bodyPost_ret (v := .tuple #[.agg #[.int .i64 P, .slice A M.length c], .int .i64 e1]) (by simp [results, Try.results35, go_sem, b0, b1, c0, c1]; try rfl) rfl ?_
    rw [HT.out]
    refine RefRet.same HOK.out.up HRW.out ?_ _
    exact ((HB2.out.trans (HB3.out.mono HB2.out.size)).setCell (p := ⟨W1.heap.size, 0, none⟩) (by have := HS.out; simp; omega) _).setCell (p := ⟨W1.heap.size, 1, none⟩) (by have := HS.out; simp; omega) _
end Go.Proofs.Ytnnmhpplmihidaa
