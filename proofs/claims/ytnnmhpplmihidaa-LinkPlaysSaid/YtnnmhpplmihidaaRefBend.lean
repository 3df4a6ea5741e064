/- The document's Bend. -/
import Derived.Test.YtnnmhpplmihidaaNetBend
import Derived.StillTailTactics
import Derived.IntWalk
import Derived.Test.YtnnmhpplmihidaaRefTwice
namespace Go.Proofs.Ytnnmhpplmihidaa
set_option linter.unusedVariables false
set_option linter.unusedSimpArgs false

theorem bendB_four (X : List UInt8) (a b c d : UInt8) (Y : List UInt8) (p mask : Nat) (hp : X.length = p) :
    bendB (X ++ a :: b :: c :: d :: Y) p mask 4 = X ++ [a ^^^ UInt8.ofNat mask, b ^^^ UInt8.ofNat (mask / 256), c ^^^ UInt8.ofNat (mask / 65536), d ^^^ UInt8.ofNat (mask / 16777216)] ++ Y := by
  subst hp
  simp [bendB]

theorem four_of {s : ByteArray} {p : Nat} (h : p + 4 ≤ s.size) :
    s.data.toList = s.data.toList.take p ++ s[p] :: s[p + 1] :: s[p + 2] :: s[p + 3] :: s.data.toList.drop (p + 4) := by
  have hl : s.data.toList.length = s.size := by simp
  have g : ∀ j (hj : j < s.size), s.data.toList.drop j = s[j] :: s.data.toList.drop (j + 1) := fun j hj => by
    rw [List.drop_eq_getElem_cons (by omega)]
    rfl
  conv => lhs; rw [← List.take_append_drop p s.data.toList]
  rw [g p (by omega), g (p + 1) (by omega), g (p + 2) (by omega), g (p + 3) (by omega)]

theorem bend_bytes {s : ByteArray} {p mask : Nat} (h : p + 4 ≤ s.size) (t0 t1 t2 t3 : UInt8) (h0 : t0 = s[p] ^^^ UInt8.ofNat mask) (h1 : t1 = s[p + 1] ^^^ UInt8.ofNat (mask / 256)) (h2 : t2 = s[p + 2] ^^^ UInt8.ofNat (mask / 65536)) (h3 : t3 = s[p + 3] ^^^ UInt8.ofNat (mask / 16777216)) :
    s.extract 0 p ++ ⟨#[t0, t1, t2, t3]⟩ ++ s.extract (p + 4) s.size = ⟨(bendB s.data.toList p mask 4).toArray⟩ := by
  subst h0 h1 h2 h3
  have hl : s.data.toList.length = s.size := by simp
  have e := bendB_four (s.data.toList.take p) s[p] s[p + 1] s[p + 2] s[p + 3] (s.data.toList.drop (p + 4)) p mask (by simp; omega)
  rw [← four_of h] at e
  rw [e]
  apply ByteArray.ext
  apply Array.toList_inj.1
  have ht : (s.data.toList.drop (p + 4)).take (s.size - (p + 4)) = s.data.toList.drop (p + 4) := List.take_of_length_le (by simp)
  simp only [ByteArray.data_append, ByteArray.data_extract, Array.toList_append, Array.toList_extract, List.extract_eq_take_drop, Nat.sub_zero, List.drop_zero, ht]

theorem u32_part (mask d : Nat) (hm : mask < 4294967296) (hd : 0 < d) : IntKind.u32.wrap ((mask : Int).tdiv d) = ((mask / d : Nat) : Int) := by
  rw [Int.tdiv_eq_ediv_of_nonneg (by omega)]
  have := Nat.div_le_self mask d
  have e : (mask : Int) / d = ((mask / d : Nat) : Int) := by norm_cast
  rw [e]
  generalize mask / d = z at this
  unfold IntKind.wrap
  simp [IntKind.signed, IntKind.bits]
  omega
end Go.Proofs.Ytnnmhpplmihidaa
namespace Go.Proofs.Ytnnmhpplmihidaa
set_option linter.unusedVariables false
set_option linter.unusedSimpArgs false
open PLinkPlays Go.RowKit Go.Proofs.YtnnmhpplmihidaaW.PrintWords

theorem rfCells_set2 (MA MB : List RF) (x : RF) (S : ByteArray) : (rfCells (MA ++ x :: MB)).set (MA.length * 4 + 2) (.string S) = rfCells (MA ++ ⟨x.f0, x.f1, S, x.f3⟩ :: MB) := by
  rw [rfCells_append, rfCells_append, List.set_append_right _ _ (by rw [rfCells_length]; omega), rfCells_length, Nat.add_sub_cancel_left]
  rfl

theorem bend_end {w w6 : World} {base R g1 cap1 n j : Nat} {P a b : Int} {M MA MB : List RF} {x : RF} {S : ByteArray} {L : Int × Int → List Fr} {vM : Value} (hok : Ok P M L n) (hx : onK a b x = true) (hM : M = MA ++ x :: MB) (hA : ((MA.filter (onK a b)).map fr).length = j) (hbase : base ≤ w.heap.size)
    (hown : w6.ownsRow w.heap.size 52 4 (.slice (some ⟨g1, 0, none⟩) M.length cap1) M.length (rfCells (MA ++ ⟨x.f0, x.f1, S, x.f3⟩ :: MB))) (hb : Below w.heap.size w w6) (hgR : g1 ≠ R) (hR : w.heap.size ≤ R) (hS : S.size ≤ 131072) (u2 u3 : Value) :
    RefRet w base P vM (upd L (a, b) ((L (a, b)).set j (S, x.f3))) (n + 1) (.returned (.tuple #[.agg #[.int .i64 P, .slice (some ⟨g1, 0, none⟩) M.length cap1], .int .i64 0])) ((w6.setCell ⟨R, 0, none⟩ u2).setCell ⟨R, 1, none⟩ u3) 0 := by
  have hl : (MA ++ (⟨x.f0, x.f1, S, x.f3⟩ : RF) :: MB).length = M.length := by rw [hM]; simp
  subst hA
  refine ⟨_, MA ++ ⟨x.f0, x.f1, S, x.f3⟩ :: MB, rfl, ?_, .inr fun k hk => own_ge' hown k hk, ?_, (hb.setCell (p := ⟨R, 0, none⟩) hR u2).setCell (p := ⟨R, 1, none⟩) hR u3⟩
  · rw [hl]
    refine own_lower (own_keep hown (fun k hk => ?_)) hbase
    simp [Value.ownBlock] at hk
    subst hk
    rw [Below.heap_setCell _ _ _ _ (by simpa using hgR), Below.heap_setCell _ _ _ _ (by simpa using hgR)]
  · have := (hok.up)
    rw [hM] at this
    exact this.change (y := ⟨x.f0, x.f1, S, x.f3⟩) hx hx hS

theorem blk_set1 {X : World} {B : Nat} {u v : Value} {T : TypeId} (h : X.heap[B]? = some (.cells #[u, v] T (0, 0))) (v' : Value) :
    (X.setCell ⟨B, 1, none⟩ v').heap[B]? = some (.cells #[u, v'] T (0, 0)) := by
  simpa using blk_set h 1 v'

set_option maxHeartbeats 4000000 in
set_option maxRecDepth 100000 in
theorem bend_ref (w : World) (base : Nat) (hbase : base ≤ w.heap.size) {P : Int} {M : List RF} {L : Int × Int → List Fr} {n : Nat} (h : Ok P M L n) (hn : n < 999) (A : Option Addr) (c : Nat) (hrow : w.ownsRow base 52 4 (.slice A M.length c) M.length (rfCells M)) (a b i : Int) (hi : i < 9223372036854775808) (at_ : Int) (mask : Nat) (hmask : mask < 4294967296) :
    Calls Try.prog 36 #[.agg #[.int .i64 P, .slice A M.length c], .int .i64 a, .int .i64 b, .int .i64 i, .int .i64 at_, .int .u32 mask] w fun e w' => RefRet w base P (.slice A M.length c) (bendM P L a b i at_ mask).2 (n + 1) e w' (bendM P L a b i at_ mask).1 := by
  obtain ⟨W1, hW1⟩ : ∃ W, w.alloc (.cells #[.int .i64 P, .slice A M.length c] 60) = W := ⟨_, rfl⟩
  have hs1 : W1.heap.size = w.heap.size + 1 := by rw [← hW1]; simp
  have hbl1 : W1.heap[w.heap.size]? = some (.cells #[.int .i64 P, .slice A M.length c] 60 (0, 0)) := by rw [← hW1]; exact World.alloc_heap_new _ _
  obtain ⟨W2, hW2⟩ : ∃ W, W1.alloc (.cells #[.int .i64 0, .slice none 0 0] 60) = W := ⟨_, rfl⟩
  have hs2 : W2.heap.size = w.heap.size + 2 := by rw [← hW2]; simp [hs1]
  have hbl2 : W2.heap[W1.heap.size]? = some (.cells #[.int .i64 0, .slice none 0 0] 60 (0, 0)) := by rw [← hW2]; exact World.alloc_heap_new _ _
  have hbl1' : W2.heap[w.heap.size]? = some (.cells #[.int .i64 P, .slice A M.length c] 60 (0, 0)) := by rw [← hW2, Below.heap_alloc _ _ _ (by omega)]; exact hbl1
  have hb2 : Below w.heap.size w W2 := by rw [← hW2, ← hW1]; exact ((Below.refl _ _).alloc (Nat.le_refl _) _).alloc (by simp) _
  have hrow2 : W2.ownsRow base 52 4 (.slice A M.length c) M.length (rfCells M) := own_keep hrow (fun k hk => hb2.block k (own_lt' hrow k hk))
  obtain ⟨hlc, hC⟩ := toC hrow2
  have hmay := may_eval 10000 (by omega) h (by omega) a b i hi
  have HMAY := Lib.hid (hearsayref26_may.calls 10000 P A c M a b i _ W2 hC hlc hmay)
  obtain ⟨e1, he1⟩ : ∃ e, (findM P L a b i).1 = e := ⟨_, rfl⟩
  rw [he1] at HMAY
  have b0 : W2.cell? ⟨w.heap.size, 0, none⟩ = some (.int .i64 P) := by simp [World.cell?, hbl1']
  have b1 : W2.cell? ⟨w.heap.size, 1, none⟩ = some (.slice A M.length c) := by simp [World.cell?, hbl1']
  have HS := Lib.hid (And.intro hs1 hs2)
  have HBL2 := Lib.hid hbl2
  have HBL1 := Lib.hid hbl1'
  have HB2 := Lib.hid hb2
  have HRW := Lib.hid hrow
  have HROW := Lib.hid hrow2
  have HOK := Lib.hid h
  have HLC := Lib.hid hlc
  have HC := Lib.hid hC
  clear hs1 hbl1 hs2 hbl2 hbl1' hb2 hrow hrow2 h hlc hC hmay
  have hafter : ∀ w3, Below W2.heap.size W2 w3 → w3.heap[W1.heap.size]? = some (.cells #[.int .i64 0, .slice none 0 0] 60 (0, 0)) := fun w3 hb3 => (hb3.block _ (by have := HS.out; omega)).trans HBL2.out
  have HAF := Lib.hid hafter
  clear hafter
  go_enter Try.func36, Try.ntmps36
  go_wp2_with fail
  refine HMAY.out.mono ?_
  rintro e w3 ⟨rfl, hb3⟩
  have b0 := cell_below hb3 b0
  have b1 := cell_below hb3 b1
  have hcc := HAF.out _ hb3
  have c0 : w3.cell? ⟨W1.heap.size, 0, none⟩ = some (.int .i64 0) := by simp [World.cell?, hcc]
  have c1 : w3.cell? ⟨W1.heap.size, 1, none⟩ = some (.slice none 0 0) := by simp [World.cell?, hcc]
  have f0 : w3.frozen? ⟨W1.heap.size, 0, none⟩ = false := by simp [World.frozen?, hcc]
  have f1 : w3.frozen? ⟨W1.heap.size, 1, none⟩ = false := by simp [World.frozen?, hcc]
  have HB3 := Lib.hid hb3
  have HC3 := Lib.hid (Kd.C_below HC.out hb3)
  clear hcc hb3 HMAY
  by_cases h0 : e1 = 0
  · subst h0
    obtain ⟨ht, j, MA, MB, x, rfl, hf, hM, hx, hA, hfx⟩ := findM_find HOK.out he1
    have hMl := HOK.out.len
    have hfind : Calls Try.prog 58 #[.agg #[.int .i64 P, .slice A M.length c], .int .i64 a, .int .i64 b, .int .i64 j] w3 fun e w' => e = .returned (.int .i64 MA.length) ∧ Below w3.heap.size w3 w' := by
      have := hearsayref26_find.calls 10000 P A c M a b j _ w3 HC3.out HLC.out (find_f 10000 P M a b j (by omega) (by omega) (by omega))
      rw [findI, hf] at this
      exact this
    have HFI := Lib.hid hfind
    have hxs := HOK.out.size x (by rw [hM]; simp)
    clear hi
    have HTH := Lib.hid ht
    have HM := Lib.hid hM
    have HX := Lib.hid hx
    have HML := Lib.hid hMl
    have HAA := Lib.hid hA
    have HFX := Lib.hid hfx
    have HE1 := Lib.hid he1
    have HXS := Lib.hid hxs
    clear he1 ht hf hM hx hA hfx hfind hMl hxs
    go_wp2_with fail
    refine HFI.out.mono ?_
    rintro e w4 ⟨rfl, hb4⟩
    have b0 := cell_below hb4 b0
    have b1 := cell_below hb4 b1
    have HB34 := Lib.hid hb4
    have HB4 := Lib.hid (HB3.out.trans (hb4.mono HB3.out.size))
    have hrow4 := own_keep HROW.out (fun k hk => HB4.out.block k (own_lt' HROW.out k hk))
    have HR4 := Lib.hid hrow4
    have hMne : 0 < M.length := by rw [HM.out]; simp; omega
    obtain ⟨G, cG, hAe⟩ := own_some hrow4 hMne
    cases hAe
    have hbox4 : w4.heap[w.heap.size]? = some (.cells #[.int .i64 P, .slice (some ⟨G, 0, none⟩) M.length c] 60 (0, 0)) := (HB4.out.block _ (by have := HS.out; omega)).trans HBL1.out
    have st4 : TwSt w3 w.heap.size W1.heap.size base G c P M w4 := ⟨hbox4, HAF.out _ HB4.out, hrow4, hb4⟩
    have hin : (MA.length : Int) < M.length := by rw [HM.out]; simp; omega
    have hin0 : (0 : Int) ≤ MA.length := by omega
    obtain ⟨b0, b1, f0, f1, x0, x1, x2, x3⟩ := st4.facts HM.out
    have hcc := HAF.out _ HB4.out
    have c0 : w4.cell? ⟨W1.heap.size, 0, none⟩ = some (.int .i64 0) := by simp [World.cell?, hcc]
    have c1 : w4.cell? ⟨W1.heap.size, 1, none⟩ = some (.slice none 0 0) := by simp [World.cell?, hcc]
    have r0 : w4.frozen? ⟨W1.heap.size, 0, none⟩ = false := by simp [World.frozen?, hcc]
    have r1 : w4.frozen? ⟨W1.heap.size, 1, none⟩ = false := by simp [World.frozen?, hcc]
    have HST := Lib.hid st4
    clear hcc hb4 hrow4 HFI hMne hbox4 st4
    by_cases h4 : x.f2.size < 4
    · have HT : Hid (bendM P L a b j at_ mask = (2, L)) := by simp [Hid, bendM, HE1.out, HFX.out, fr, h4]
      have h4' : (x.f2.size : Int) < 4 := by omega
      clear h4
      go_wp2_with fail
      refine bodyPost_ret (v := .tuple #[.agg #[.int .i64 P, .slice (some ⟨G, 0, none⟩) M.length c], .int .i64 2]) (by simp [results, Try.results36, go_sem, b0, b1, c0, c1]; try rfl) rfl ?_
      rw [HT.out]
      refine RefRet.same HOK.out.up HRW.out ?_ _
      exact ((HB2.out.trans (HB4.out.mono HB2.out.size)).setCell (p := ⟨W1.heap.size, 0, none⟩) (by have := HS.out; simp; omega) _).setCell (p := ⟨W1.heap.size, 1, none⟩) (by have := HS.out; simp; omega) _
    · have h4' : ¬ (x.f2.size : Int) < 4 := by omega
      obtain ⟨p, hp, hp1⟩ : ∃ p : Nat, (IntKind.u64.wrap at_).toNat % (x.f2.size - 3) = p ∧ p + 4 ≤ x.f2.size := ⟨_, rfl, by have := Nat.mod_lt (IntKind.u64.wrap at_).toNat (show 0 < x.f2.size - 3 by omega); omega⟩
      have HT : Hid (bendM P L a b j at_ mask = (0, upd L (a, b) ((L (a, b)).set j (⟨(bendB x.f2.data.toList p mask 4).toArray⟩, x.f3)))) := by simp [Hid, bendM, HE1.out, HFX.out, fr, h4, hp]
      have hP : wrap64 ((IntKind.u64.wrap at_).tmod ((x.f2.size : Int) - 3)) = (p : Int) := by
        have e2 : ((x.f2.size : Int) - 3) = ((x.f2.size - 3 : Nat) : Int) := by omega
        have e := wrap_u64_mod' at_
        rw [e2, Int.tmod_eq_emod_of_nonneg (by omega), ← hp]
        have h0 : 0 ≤ IntKind.u64.wrap at_ := by omega
        obtain ⟨z, hz⟩ := Int.eq_ofNat_of_zero_le h0
        rw [hz, Int.toNat_natCast, ← Int.natCast_emod]
        have hx5 := HXS.out
        have := Nat.mod_lt z (show 0 < x.f2.size - 3 by omega)
        generalize z % (x.f2.size - 3) = r at this
        unfold wrap64; omega
      have HPI := Lib.hid hP
      have hxi : (x.f2.size : Int) ≤ 131072 := by have := HXS.out; omega
      have HP1 := Lib.hid hp1
      clear hp hp1 hP
      go_upto_region 9 with fail
      rw [HPI.out]
      have p0 : (p : Int) + 4 ≤ x.f2.size := by have := HP1.out; omega
      have pp0 : (0 : Int) ≤ p := by omega
      have pq0 : (p : Int) < x.f2.size := by omega
      have pq1 : (p : Int) + 1 < x.f2.size := by omega
      have pq2 : (p : Int) + 2 < x.f2.size := by omega
      have pq3 : (p : Int) + 3 < x.f2.size := by omega
      have pz1 : (0 : Int) ≤ (p : Int) + 1 := by omega
      have pz2 : (0 : Int) ≤ (p : Int) + 2 := by omega
      have pz3 : (0 : Int) ≤ (p : Int) + 3 := by omega
      have pn1 : ((p : Int) + 1).toNat = p + 1 := by omega
      have pn2 : ((p : Int) + 2).toNat = p + 2 := by omega
      have pn3 : ((p : Int) + 3).toNat = p + 3 := by omega
      have pw1 : IntKind.i64.wrap ((p : Int) + 1) = (p : Int) + 1 := IntWalk.i64_in _ (by omega)
      have pw2 : IntKind.i64.wrap ((p : Int) + 2) = (p : Int) + 2 := IntWalk.i64_in _ (by omega)
      have pw3 : IntKind.i64.wrap ((p : Int) + 3) = (p : Int) + 3 := IntWalk.i64_in _ (by omega)
      go_still_tail 33, (by kernel_rfl)
      clear pw1 pw2 pw3
      change wpList _ _ _ _ _ w4.drew
      go_upto_region 10 with fail
      obtain ⟨t0, ht0⟩ : ∃ t, x.f2[p]'(by omega) ^^^ UInt8.ofNat mask = t := ⟨_, rfl⟩
      obtain ⟨t1, ht1⟩ : ∃ t, x.f2[p + 1]'(by omega) ^^^ UInt8.ofNat (mask / 256) = t := ⟨_, rfl⟩
      obtain ⟨t2, ht2⟩ : ∃ t, x.f2[p + 2]'(by omega) ^^^ UInt8.ofNat (mask / 65536) = t := ⟨_, rfl⟩
      obtain ⟨t3, ht3⟩ : ∃ t, x.f2[p + 3]'(by omega) ^^^ UInt8.ofNat (mask / 16777216) = t := ⟨_, rfl⟩
      have v0 : bits .xor .u8 ((x.f2[p]'(by omega)).toNat : Int) ((mask : Int) % 256) = (t0.toNat : Int) := by rw [← ht0, ← xor_u8]
      have v1 : bits .xor .u8 ((x.f2[p + 1]'(by omega)).toNat : Int) ((mask : Int) / 256 % 256) = (t1.toNat : Int) := by rw [← ht1, ← xor_u8]; rfl
      have v2 : bits .xor .u8 ((x.f2[p + 2]'(by omega)).toNat : Int) ((mask : Int) / 65536 % 256) = (t2.toNat : Int) := by rw [← ht2, ← xor_u8]; rfl
      have v3 : bits .xor .u8 ((x.f2[p + 3]'(by omega)).toNat : Int) ((mask : Int) / 16777216) = (t3.toNat : Int) := by
        rw [← ht3, ← xor_u8]
        have e : (((mask / 16777216 : Nat) : Int)) % 256 = (mask : Int) / 16777216 := by omega
        rw [e]
      rw [v0, v1, v2, v3]
      clear v0 v1 v2 v3
      have HBY : Hid (x.f2.extract 0 p ++ ⟨#[t0, t1, t2, t3]⟩ ++ x.f2.extract (p + 4) x.f2.size = ⟨(bendB x.f2.data.toList p mask 4).toArray⟩) := bend_bytes HP1.out t0 t1 t2 t3 ht0.symm ht1.symm ht2.symm ht3.symm
      clear ht0 ht1 ht2 ht3
      obtain ⟨W5, hW5⟩ : ∃ W, (w4.alloc (.cells #[.int .u8 (t0.toNat : Int), .int .u8 (t1.toNat : Int), .int .u8 (t2.toNat : Int), .int .u8 (t3.toNat : Int)] 5)).drew = W := ⟨_, rfl⟩
      have hb5 : Below w4.heap.size w4 W5 := by rw [← hW5]; exact ((Below.refl _ _).alloc (Nat.le_refl _) _).drew
      have hs5 : W5.heap.size = w4.heap.size + 1 := by rw [← hW5]; simp
      have hbl5 : W5.heap[w4.heap.size]? = some (.cells #[.int .u8 (t0.toNat : Int), .int .u8 (t1.toNat : Int), .int .u8 (t2.toNat : Int), .int .u8 (t3.toNat : Int)] 5 (0, 0)) := by rw [← hW5]; exact World.alloc_heap_new _ _
      have st5 := HST.out.below hb5
      obtain ⟨W6, hW6⟩ : ∃ W, W5.alloc (.cells #[] 52) = W := ⟨_, rfl⟩
      have he6 : W6.heap[W5.heap.size]? = some (.cells #[] 52 (0, 0)) := by rw [← hW6]; exact World.alloc_heap_new _ _
      have hb6 : Below W5.heap.size W5 W6 := by rw [← hW6]; exact (Below.refl _ _).alloc (Nat.le_refl _) _
      have st6 := st5.below hb6
      rw [hW5]
      clear hW5 b0 b1 f0 f1 x0 x1 x2 x3 c0 c1 r0 r1
      obtain ⟨b0, b1, f0, f1, x0, x1, x2, x3⟩ := st6.facts HM.out
      have b0' := (st5.facts HM.out).1
      have b1' := (st5.facts HM.out).2.1
      obtain ⟨i0, hi, hz0, hz1, hz2⟩ := info_parts info_FV
      have HI := Lib.hid (And.intro hi (And.intro hz0 (And.intro hz1 hz2)))
      have HS5 := Lib.hid hs5
      have HBL5 := Lib.hid hbl5
      have HB5 := Lib.hid hb5
      have HB6 := Lib.hid hb6
      have HE6 := Lib.hid he6
      have HST5 := Lib.hid st5
      have HST6 := Lib.hid st6
      have hMpos : 0 < M.length := by omega
      have HMP := Lib.hid hMpos
      have hlt6 : w.heap.size < W5.heap.size := by have := HS.out; have := HB4.out.size; omega
      have HLT6 := Lib.hid hlt6
      have hE5 : w3.heap.size ≤ W5.heap.size := HST5.out.bel.size
      have HE5 := Lib.hid hE5
      clear hE5
      have HGL : Hid (G < W5.heap.size) := own_lt' HST5.out.row G rfl
      have HRL : Hid (W1.heap.size < W5.heap.size) := (Array.getElem?_eq_some_iff.1 HST5.out.out).1
      clear hi hz0 hz1 hz2 hs5 hbl5 hb5 hb6 he6 st5 st6 hMpos hlt6
      go_upto_region 11 with (at_builtin; refine wpList_append_lies _ rfl _ _ 47 rfl w.heap.size 52 i0 (.agg #[.int .i64 0, .int .i64 0, .string ByteArray.empty, .string ByteArray.empty]) 4 48 Try.underlying47 HI.out.1 HI.out.2.1 HI.out.2.2.1 HI.out.2.2.2 rfl (by decide) (.slice (some ⟨W5.heap.size, 0, none⟩) 0 0) 0 [] rfl (own_empty 4 (Nat.le_of_lt HLT6.out) HE6.out) ⟨G, 0, none⟩ M.length c (rfCells M) rfl (rfCells_length M) HST6.out.cells (rfCells_one M) HMP.out (by have := HML.out; unfold maxLen; omega) (by have := HML.out; omega) (Nat.le_of_lt HST6.out.lt) _ rfl ?_; intro g1 cap1 w7 hown7 hgr7 hlies7 hlt7; have st7 := TwSt.grow hgr7 HST5.out HB6.out HE5.out (Nat.ne_of_lt HGL.out) (Nat.ne_of_lt HLT6.out) (Nat.ne_of_lt HRL.out); obtain ⟨b0, b1, f0, f1, x0, x1, x2, x3⟩ := st7.facts HM.out; have HST7 := Lib.hid st7; have HG1 : Hid (W5.heap.size ≤ g1) := hlies7.elim (fun e => by have e2 : W5.heap.size = g1 := (by simpa [Value.ownBlock] using e); exact Nat.le_of_eq e2) (fun e => by rw [e]; exact HB6.out.size); have HGR7 := Lib.hid hgr7; have HOWN7 := Lib.hid hown7; clear st7 hlies7 hgr7 hown7)
      have hown7 := HOWN7.out
      rw [Nat.zero_add, List.nil_append] at hown7
      have hold7 : ∀ k, k < W5.heap.size → w7.heap[k]? = W5.heap[k]? := fun k hk => (HGR7.out.block k (Nat.lt_of_lt_of_le hk HB6.out.size) (fun e => absurd (Option.some.inj e) (Nat.ne_of_lt hk))).trans (HB6.out.block k hk)
      obtain ⟨cs7, hcs7⟩ := own_cells' hown7 g1 rfl
      have hgB : g1 ≠ w.heap.size := by have := HG1.out; have := HLT6.out; omega
      have hgR : g1 ≠ W1.heap.size := by have := HG1.out; have := HRL.out; omega
      have hbox7 := HST7.out.box
      obtain ⟨w8, hw8⟩ : ∃ W, w7.setCell ⟨w.heap.size, 1, none⟩ (.slice (some ⟨g1, 0, none⟩) M.length cap1) = W := ⟨_, rfl⟩
      have hown8 : w8.ownsRow w.heap.size 52 4 (.slice (some ⟨g1, 0, none⟩) M.length cap1) M.length (rfCells M) := own_keep hown7 (fun k hk => by
        simp [Value.ownBlock] at hk
        subst hk
        rw [← hw8]
        exact Below.heap_setCell _ _ _ _ (by simpa using hgB))
      have hbox8 : w8.heap[w.heap.size]? = some (.cells #[.int .i64 P, .slice (some ⟨g1, 0, none⟩) M.length cap1] 60 (0, 0)) := by
        rw [← hw8]
        exact blk_set1 hbox7 _
      have hout8 : w8.heap[W1.heap.size]? = some (.cells #[.int .i64 0, .slice none 0 0] 60 (0, 0)) := by
        rw [← hw8, Below.heap_setCell _ _ _ _ (by have := HS.out; simp; omega)]
        exact HST7.out.out
      have hbl8 : w8.heap[w4.heap.size]? = some (.cells #[.int .u8 (t0.toNat : Int), .int .u8 (t1.toNat : Int), .int .u8 (t2.toNat : Int), .int .u8 (t3.toNat : Int)] 5 (0, 0)) := by
        have h8 := HB4.out.size
        have h9 := HS.out
        rw [← hw8, Below.heap_setCell _ _ _ _ (by simp; omega), hold7 w4.heap.size (by have := HS5.out; omega)]
        exact HBL5.out
      have hbe8 : Below w.heap.size w w8 := by
        rw [← hw8]
        have h1 : Below w.heap.size w w4 := HB2.out.trans (HB4.out.mono HB2.out.size)
        have h2 : Below w.heap.size w W5 := h1.trans (HB5.out.mono h1.size)
        have h3 : Below w.heap.size W5 w7 := ⟨HGR7.out.os.trans HB6.out.os, HGR7.out.tape.trans HB6.out.tape, HGR7.out.output.trans HB6.out.output, Nat.le_trans HB6.out.size HGR7.out.size, fun k hk => hold7 k (Nat.lt_trans hk HLT6.out)⟩
        exact (h2.trans h3).setCell (p := ⟨w.heap.size, 1, none⟩) (Nat.le_refl _) _
      rw [hw8]
      have HOWN8 := Lib.hid hown8
      have HBOX8 := Lib.hid hbox8
      have HOUT8 := Lib.hid hout8
      have HBL8 := Lib.hid hbl8
      have HBE8 := Lib.hid hbe8
      have HGB := Lib.hid hgB
      have HGR := Lib.hid hgR
      clear hw8 hown8 hbox8 hout8 hbl8 hbe8 hgB hgR hown7 hcs7 hbox7 hold7 b0 b1 f0 f1 x0 x1 x2 x3 b0' b1' hlt7
      refine wp_region_still_tail 16 (by kernel_rfl) (by kernel_rfl) ?_
      simp only [List.take_succ_cons, List.take_zero, List.drop_succ_cons, List.drop_zero]
      generalize hw9 : ({ w8 with drawn := w8.drawn + 1 } : World) = w9
      have h9 : w9.heap = w8.heap := by rw [← hw9]
      have H9 : Hid (Below w.heap.size w w9) := ⟨by rw [← hw9]; exact HBE8.out.os, by rw [← hw9]; exact HBE8.out.tape, by rw [← hw9]; exact HBE8.out.output, by rw [h9]; exact HBE8.out.size, by rw [h9]; exact HBE8.out.block⟩
      have HOWN9 : Hid (w9.ownsRow w.heap.size 52 4 (.slice (some ⟨g1, 0, none⟩) M.length cap1) M.length (rfCells M)) := own_keep HOWN8.out (fun k hk => by rw [h9])
      have b0 : w9.cell? ⟨w.heap.size, 0, none⟩ = some (.int .i64 P) := by simp [World.cell?, h9, HBOX8.out]
      have b1 : w9.cell? ⟨w.heap.size, 1, none⟩ = some (.slice (some ⟨g1, 0, none⟩) M.length cap1) := by simp [World.cell?, h9, HBOX8.out]
      have c0 : w9.cell? ⟨W1.heap.size, 0, none⟩ = some (.int .i64 0) := by simp [World.cell?, h9, HOUT8.out]
      have c1 : w9.cell? ⟨W1.heap.size, 1, none⟩ = some (.slice none 0 0) := by simp [World.cell?, h9, HOUT8.out]
      have r0 : w9.frozen? ⟨W1.heap.size, 0, none⟩ = false := by simp [World.frozen?, h9, HOUT8.out]
      have r1 : w9.frozen? ⟨W1.heap.size, 1, none⟩ = false := by simp [World.frozen?, h9, HOUT8.out]
      have hml : MA.length < M.length := by omega
      have hxe : M[MA.length]'hml = x := by simp [HM.out]
      have s2 : w9.cell? ⟨g1, MA.length * 4 + 2, none⟩ = some (.string x.f2) := by
        rw [HOWN9.out.cellAt _ (by omega), rfCells_at M _ hml 2 (by omega), hxe]
        rfl
      have z2 : w9.frozen? ⟨g1, MA.length * 4 + 2, none⟩ = false := HOWN9.out.frozenAt _
      have hby : BytesAt w9 w4.heap.size [t0, t1, t2, t3] := by
        intro k hk
        have hk' : k = 0 ∨ k = 1 ∨ k = 2 ∨ k = 3 := by simp at hk; omega
        rcases hk' with rfl | rfl | rfl | rfl <;> exact ⟨by simp [World.cell?, h9, HBL8.out], by simp [World.frozen?, h9, HBL8.out]⟩
      have hcv := string_back hby 4 rfl 4
      clear hxe hby h9 hw9 hml
      have pw4 : IntKind.i64.wrap ((p : Int) + 4) = (p : Int) + 4 := IntWalk.i64_in _ (by omega)
      have pz4 : (0 : Int) ≤ (p : Int) + 4 := by omega
      have pn4 : ((p : Int) + 4).toNat = p + 4 := by omega
      have pl4 : ¬ (x.f2.size : Int) < (p : Int) + 4 := by omega
      have pl0 : ¬ (x.f2.size : Int) < (p : Int) := by omega
      have pe0 : p ≤ x.f2.size := by omega
      have pe4 : p + 4 ≤ x.f2.size := by omega
      repeat still_step
      have pg1 : ¬ 9223372036854775807 < p + 4 := by omega
      have pg2 : ¬ 9223372036854775807 < x.f2.size := by omega
      repeat still_step
      clear pg1 pg2
      try refine wpStill_nil ?_
      clear pw4 hcv
      obtain ⟨S, hS⟩ : ∃ S, x.f2.extract 0 p ++ ⟨#[t0, t1, t2, t3]⟩ ++ x.f2.extract (p + 4) x.f2.size = S := ⟨_, rfl⟩
      go_upto_region 12 with fail
      rw [hS]
      obtain ⟨W10, hW10⟩ : ∃ W, w9.setCell ⟨g1, MA.length * 4 + 2, none⟩ (.string S) = W := ⟨_, rfl⟩
      have K : ∀ k, k ≠ g1 → W10.heap[k]? = w9.heap[k]? := fun k hk => by rw [← hW10]; exact Below.heap_setCell _ _ _ _ hk
      have hB1 : w.heap.size ≠ g1 := fun e => HGB.out e.symm
      have hR1 : W1.heap.size ≠ g1 := fun e => HGR.out e.symm
      have b0' : W10.cell? ⟨w.heap.size, 0, none⟩ = some (.int .i64 P) := by rw [World.cell?_of_block (K _ hB1)]; exact b0
      have b1' : W10.cell? ⟨w.heap.size, 1, none⟩ = some (.slice (some ⟨g1, 0, none⟩) M.length cap1) := by rw [World.cell?_of_block (K _ hB1)]; exact b1
      have c0' : W10.cell? ⟨W1.heap.size, 0, none⟩ = some (.int .i64 0) := by rw [World.cell?_of_block (K _ hR1)]; exact c0
      have c1' : W10.cell? ⟨W1.heap.size, 1, none⟩ = some (.slice none 0 0) := by rw [World.cell?_of_block (K _ hR1)]; exact c1
      have r0' : W10.frozen? ⟨W1.heap.size, 0, none⟩ = false := by rw [World.frozen?_of_block (K _ hR1)]; exact r0
      have r1' : W10.frozen? ⟨W1.heap.size, 1, none⟩ = false := by rw [World.frozen?_of_block (K _ hR1)]; exact r1
      have hown10 : W10.ownsRow w.heap.size 52 4 (.slice (some ⟨g1, 0, none⟩) M.length cap1) M.length (rfCells (MA ++ ⟨x.f0, x.f1, S, x.f3⟩ :: MB)) := by
        have h1 := (HOWN9.out.stored (MA.length * 4 + 2) (.string S)).1
        rw [hW10] at h1
        rw [← rfCells_set2, ← HM.out]
        exact h1
      have hbe10 : Below w.heap.size w W10 := by
        rw [← hW10]
        refine H9.out.setCell (p := ⟨g1, MA.length * 4 + 2, none⟩) ?_ _
        have := HG1.out
        have := HLT6.out
        show w.heap.size ≤ g1
        omega
      rw [hW10]
      have HO10 := Lib.hid hown10
      have HBE10 := Lib.hid hbe10
      have HSS := Lib.hid hS
      clear hW10 K hB1 hR1 b0 b1 c0 c1 r0 r1 hown10 hbe10 hS s2 z2
      go_wp2_with fail
      refine bodyPost_ret (v := .tuple #[.agg #[.int .i64 P, .slice (some ⟨g1, 0, none⟩) M.length cap1], .int .i64 0]) (by simp [results, Try.results36, go_sem, b0', b1', c0', c1']; try rfl) rfl ?_
      rw [HT.out, ← HBY.out, HSS.out]
      have hsz : S.size ≤ 131072 := by
        rw [← HSS.out]
        have := HXS.out
        simp [ByteArray.size_append, ByteArray.size_extract]
        have e : (ByteArray.mk #[t0, t1, t2, t3]).size = 4 := rfl
        omega
      exact bend_end HOK.out HX.out HM.out HAA.out hbase HO10.out HBE10.out HGR.out (by have := HS.out; omega) hsz _ _
  · have HT : Hid (bendM P L a b i at_ mask = (e1, L)) := by simp [Hid, bendM, he1, h0]
    have h0' : ¬ (0 : Int) = e1 := fun h => h0 h.symm
    clear he1
    go_wp2_with fail
    refine bodyPost_ret (v := .tuple #[.agg #[.int .i64 P, .slice A M.length c], .int .i64 e1]) (by simp [results, Try.results36, go_sem, b0, b1, c0, c1]; try rfl) rfl ?_
    rw [HT.out]
    refine RefRet.same HOK.out.up HRW.out ?_ _
    exact ((HB2.out.trans (HB3.out.mono HB2.out.size)).setCell (p := ⟨W1.heap.size, 0, none⟩) (by have := HS.out; simp; omega) _).setCell (p := ⟨W1.heap.size, 1, none⟩) (by have := HS.out; simp; omega) _
end Go.Proofs.Ytnnmhpplmihidaa
