/- The net of package link: Bend. -/
import Derived.Lib.ConvBytes
import Derived.Test.YtnnmhpplmihidaaNetTake
namespace Go.Proofs.Ytnnmhpplmihidaa
set_option linter.unusedVariables false
set_option linter.unusedSimpArgs false
open Go.RowKit

/-- Block B holds the bytes bs, and may be written there. -/
def BytesAt (w : World) (B : Nat) (bs : List UInt8) : Prop := ∀ j, j < bs.length → w.cell? ⟨B, j, none⟩ = some (.int .u8 (bs.getD j 0).toNat) ∧ w.frozen? ⟨B, j, none⟩ = false

theorem string_bytes (w : World) (s : ByteArray) : ∃ cap WB, (convert 9 98 (.string s)).run Try.prog w = .ok (.slice (some ⟨w.heap.size, 0, none⟩) s.size cap) WB ∧ Below w.heap.size w WB ∧ WB.heap.size = w.heap.size + 1 ∧ BytesAt WB w.heap.size s.data.toList := by
  refine ⟨_, _, Lib.run_convert_string_bytes (P := Try.prog) w _ _ 5 s Try.underlying9 Try.underlying98 Try.underlying5, ⟨rfl, rfl, rfl, ?_, fun k hk => Lib.bytesWorld_at_old _ _ _ _ hk⟩, Lib.bytesWorld_size _ _ _, fun j hj => ?_⟩
  · rw [Lib.bytesWorld_size]; omega
  · have hj' : j < s.size := by simpa using hj
    refine ⟨Lib.bytesWorld_cell _ _ _ j hj', ?_⟩
    have hsz : s.size ≤ (Lib.bytesCells w 5 s).size := by simp [Lib.bytesCells]
    simp [World.frozen?, Lib.bytesWorld_at_new]
    omega

theorem BytesAt.set {w : World} {B : Nat} {bs : List UInt8} (h : BytesAt w B bs) (i : Nat) (hi : i < bs.length) (x : UInt8) : BytesAt (w.setCell ⟨B, i, none⟩ (.int .u8 x.toNat)) B (bs.set i x) := by
  intro j hj
  rw [List.length_set] at hj
  obtain ⟨h1, h2⟩ := h j hj
  obtain ⟨h3, _⟩ := h i hi
  refine ⟨?_, by rw [World.frozen?_setCell]; exact h2⟩
  by_cases e : j = i
  · subst e
    rw [World.cell?_setCell_same' _ _ _ (by rw [h3]; rfl), List.getD_eq_getElem?_getD, List.getElem?_set_self hi]
    rfl
  · rw [World.cell?_setCell_other _ _ _ _ (by simp [e]), h1, List.getD_eq_getElem?_getD, List.getD_eq_getElem?_getD, List.getElem?_set_ne (Ne.symm e)]

theorem frCells_set1 (fs : List Fr) (n : Nat) (x : ByteArray) (h : n < fs.length) : (frCells fs).set (n * 2) (.string x) = frCells (fs.set n (x, fs[n].2)) := by
  induction fs generalizing n with
  | nil => simp at h
  | cons f fs ih =>
    cases n with
    | zero => rfl
    | succ n =>
      have := ih n (by simpa using h)
      rw [show (n + 1) * 2 = n * 2 + 1 + 1 by omega]
      show Value.string f.1 :: Value.string f.2 :: (frCells fs).set (n * 2) (.string x) = _
      rw [this]
      rfl

theorem own_some {w : World} {base : Nat} {e : TypeId} {size n : Nat} {v : Value} {xs : List Value} (h : w.ownsRow base e size v n xs) (hn : 0 < n) : ∃ g c, v = .slice (some ⟨g, 0, none⟩) n c := by
  rcases h.2 with ⟨_, rfl⟩ | ⟨g, cap, cur, rfl, _⟩
  · omega
  · exact ⟨_, _, rfl⟩

theorem string_back {w : World} {B : Nat} {bs : List UInt8} (h : BytesAt w B bs) (n : Nat) (hn : bs.length = n) (cap : Nat) : (convert 98 9 (.slice (some ⟨B, 0, none⟩) n cap)).run Try.prog w = .ok (.string ⟨bs.toArray⟩) w := by
  subst hn
  refine run_convert_bytes_back w _ _ 5 _ cap bs Try.underlying98 Try.underlying5 Try.underlying9 (fun j hj => ?_)
  rw [addr_add, (h j hj).1, List.getD_eq_getElem?_getD, List.getElem?_eq_getElem hj]
  rfl

section
variable {n0 : Nat} {w : World} {O : Nat → Prop} {g : Nat} {peers : Int} {L : Int × Int → List Fr} {mb : Nat} {m : List ((Int × Int) × Value)}

theorem wrap_u64_mod' (d : Int) : IntKind.u64.wrap d = d % 18446744073709551616 := by
  unfold IntKind.wrap
  simp [IntKind.signed, IntKind.bits]

theorem xor_u8 (x : UInt8) (z : Nat) : bits .xor .u8 (x.toNat : Int) ((z : Int) % 256) = ((x ^^^ UInt8.ofNat z).toNat : Int) := by
  show IntKind.u8.wrap ((BitVec.ofInt 8 (x.toNat : Int) ^^^ BitVec.ofInt 8 ((z : Int) % 256)).toNat : Int) = _
  have h2 : ((z : Int) % 256) = ((z % 256 : Nat) : Int) := by omega
  have hx : x.toNat < 256 := x.toNat_lt
  have e1 : (BitVec.ofInt 8 (x.toNat : Int)).toNat = x.toNat := by rw [BitVec.ofInt_natCast, BitVec.toNat_ofNat]; exact Nat.mod_eq_of_lt hx
  have e2 : (BitVec.ofInt 8 ((z % 256 : Nat) : Int)).toNat = z % 256 := by rw [BitVec.ofInt_natCast, BitVec.toNat_ofNat]; exact Nat.mod_eq_of_lt (Nat.mod_lt _ (by decide))
  have e3 : (UInt8.ofNat z).toNat = z % 256 := by simp
  rw [h2, BitVec.toNat_xor, e1, e2, UInt8.toNat_xor, e3]
  have hlt : x.toNat ^^^ (z % 256) < 2 ^ 8 := Nat.xor_lt_two_pow hx (Nat.mod_lt _ (by decide))
  generalize x.toNat ^^^ (z % 256) = y at hlt
  unfold IntKind.wrap
  simp [IntKind.signed, IntKind.bits]
  omega

/-- k of a frame's bytes are bent, from the p-th on. -/
def bendB (bs : List UInt8) (p mask : Nat) : Nat → List UInt8
  | 0 => bs
  | k + 1 => (bendB bs p mask k).set (p + k) ((bendB bs p mask k).getD (p + k) 0 ^^^ UInt8.ofNat (mask / 2 ^ (8 * k)))

def bendM (peers : Int) (L : Int × Int → List Fr) (a b i at_ : Int) (mask : Nat) : Int × (Int × Int → List Fr) :=
  if (findM peers L a b i).1 = 0 then
    (if (findM peers L a b i).2.1.size < 4 then (2, L) else
      (0, upd L (a, b) ((L (a, b)).set i.toNat (⟨(bendB (findM peers L a b i).2.1.data.toList ((IntKind.u64.wrap at_).toNat % ((findM peers L a b i).2.1.size - 3)) mask 4).toArray⟩, (findM peers L a b i).2.2))))
  else ((findM peers L a b i).1, L)

set_option maxHeartbeats 2000000 in
set_option maxRecDepth 100000 in
theorem bend_net (h : IsNet n0 w O g peers L mb m) (a b i at_ : Int) (mask : Nat) (hmask : mask < 4294967296) (hsz : ∀ p, ∀ f ∈ L p, f.1.size ≤ 140737488351232) :
    Calls Try.prog 32 #[.pointer (some ⟨g, 0, none⟩), .int .i64 a, .int .i64 b, .int .i64 i, .int .i64 at_, .int .u32 mask] w fun e w' => e = .returned (.int .i64 (bendM peers L a b i at_ mask).1) ∧ NetStep n0 w O g peers (bendM peers L a b i at_ mask).2 mb w' := by
  have hfind := find_net h a b i
  unfold findRet at hfind
  obtain ⟨c, hc⟩ : ∃ c, (findM peers L a b i).1 = c := ⟨_, rfl⟩
  obtain ⟨f, hf⟩ : ∃ f, (findM peers L a b i).2 = f := ⟨_, rfl⟩
  rw [hc, hf] at hfind
  have HF := Lib.hid hfind
  have HH := Lib.hid h
  by_cases h0 : c = 0
  · subst h0
    obtain ⟨ht, n, rfl, hn, hfn⟩ := findM_zero hc
    have hm8 := h.most (a, b)
    have hfs : f.1.size ≤ 140737488351232 := by
      have : f = (L (a, b))[n] := by rw [← hf, hfn]
      rw [this]; exact hsz _ _ (List.getElem_mem hn)
    have hf2 : f.2 = (L (a, b))[n].2 := by rw [← hf, hfn]
    have HF2 := Lib.hid hf2
    clear hf2
    have Hlist : Hid (∀ (w2 : World), Below w.heap.size w w2 → Calls Try.prog 50 #[.pointer (some ⟨g, 0, none⟩), .int .i64 a, .int .i64 b] w2 fun e w' => ∃ u, e = .returned u ∧ w2.ownsRow n0 94 2 u (L (a, b)).length (frCells (L (a, b))) ∧ (∀ k, u.ownBlock = some k → O k) ∧ w2 = w') :=
      fun w2 hb => list_net (h.moved (Moved.of_below O hb h.hn0)) a b ht
    by_cases h4 : f.1.size < 4
    · have HT : Hid (bendM peers L a b n at_ mask = (2, L)) := by simp [Hid, bendM, hc, hf, h4]
      clear hfind h hc hf hfn ht hsz
      go_enter Try.func32, Try.ntmps32
      go_wp2_with ((go_at_call 54; refine HF.out.mono ?_; rintro e w' ⟨rfl, hb⟩; obtain ⟨W2, hW2⟩ : ∃ W2, w'.alloc (.cells #[.string f.1, .string f.2] 94) = W2 := ⟨_, rfl⟩; have hb2 : Below w.heap.size w W2 := (by rw [← hW2]; exact hb.alloc hb.size _); have hbl : W2.heap[w'.heap.size]? = some (.cells #[.string f.1, .string f.2] 94 (0, 0)) := (by rw [← hW2]; exact World.alloc_heap_new _ _); have d0 : W2.cell? ⟨w'.heap.size, 0, none⟩ = some (.string f.1) := (by simp [World.cell?, hbl]); clear hbl))
      go_ret
      rw [HT.out]
      exact ⟨rfl, NetStep.same HH.out hb2⟩
    · obtain ⟨p, hp, hp1⟩ : ∃ p : Nat, (IntKind.u64.wrap at_).toNat % (f.1.size - 3) = p ∧ p + 4 ≤ f.1.size := ⟨_, rfl, by have := Nat.mod_lt (IntKind.u64.wrap at_).toNat (show 0 < f.1.size - 3 by omega); omega⟩
      have HT : Hid (bendM peers L a b n at_ mask = (0, upd L (a, b) ((L (a, b)).set n (⟨(bendB f.1.data.toList p mask 4).toArray⟩, f.2)))) := by simp [Hid, bendM, hc, hf, h4, hp]
      have hP : wrap64 ((IntKind.u64.wrap at_).tmod ((f.1.size : Int) - 4 + 1)) = (p : Int) := by
        have e := wrap_u64_mod' at_
        have e2 : ((f.1.size : Int) - 4 + 1) = ((f.1.size - 3 : Nat) : Int) := by omega
        rw [e2, Int.tmod_eq_emod_of_nonneg (by omega), ← hp]
        have h0 : 0 ≤ IntKind.u64.wrap at_ := by omega
        obtain ⟨z, hz⟩ := Int.eq_ofNat_of_zero_le h0
        rw [hz, Int.toNat_natCast, ← Int.natCast_emod]
        have := Nat.mod_lt z (show 0 < f.1.size - 3 by omega)
        generalize z % (f.1.size - 3) = r at this
        unfold wrap64; omega
      have HPP := Lib.hid hp
      clear hfind h hc hf hfn ht hsz hp
      go_enter Try.func32, Try.ntmps32
      go_wp2_with ((go_at_call 54; refine HF.out.mono ?_; rintro e w' ⟨rfl, hb⟩; obtain ⟨W2, hW2⟩ : ∃ W2, w'.alloc (.cells #[.string f.1, .string f.2] 94) = W2 := ⟨_, rfl⟩; have hb2 : Below w.heap.size w W2 := (by rw [← hW2]; exact hb.alloc hb.size _); have hbl : W2.heap[w'.heap.size]? = some (.cells #[.string f.1, .string f.2] 94 (0, 0)) := (by rw [← hW2]; exact World.alloc_heap_new _ _); have d0 : W2.cell? ⟨w'.heap.size, 0, none⟩ = some (.string f.1) := (by simp [World.cell?, hbl]); clear hbl; obtain ⟨cap0, WB, hconv, hWB, hWBs, hbytes⟩ := string_bytes W2 f.1; have HBY := Lib.hid hbytes; clear hbytes))
      rw [hP]
      clear hP
      have hbs : f.1.data.toList.length = f.1.size := by simp
      obtain ⟨bs, hbse⟩ : ∃ bs, f.1.data.toList = bs := ⟨_, rfl⟩
      rw [hbse] at hbs HT HBY
      have hlenB : ∀ k, (bendB bs p mask k).length = f.1.size := by
        intro k
        induction k with
        | zero => exact hbs
        | succ k ih => simp [bendB, ih]
      have HLB := Lib.hid hlenB
      have HBE := Lib.hid hbse
      clear hlenB hbse hbs hW2 hconv
      go_loopw [46] (fun t wr => ∃ k : Nat, k ≤ 4 ∧ t = .int .i64 k ∧ BytesAt wr W2.heap.size (bendB bs p mask k) ∧ Below W2.heap.size W2 wr) (fun t _ => 4 - (intOf t).toNat)
      case atStart => exact ⟨0, by omega, rfl, HBY.out, hWB⟩
      case round =>
        obtain ⟨k, hk, rfl, hby, hbw⟩ := hrel
        by_cases hk4 : k < 4
        · obtain ⟨c1, f1⟩ := hby (p + k) (by rw [HLB.out]; omega)
          obtain ⟨x, hx⟩ : ∃ x, (bendB bs p mask k).getD (p + k) 0 = x := ⟨_, rfl⟩
          rw [hx] at c1
          obtain ⟨y, hy⟩ : ∃ y, x ^^^ UInt8.ofNat (mask / 2 ^ (8 * k)) = y := ⟨_, rfl⟩
          have hstep : bendB bs p mask (k + 1) = (bendB bs p mask k).set (p + k) y := by
            show (bendB bs p mask k).set (p + k) ((bendB bs p mask k).getD (p + k) 0 ^^^ UInt8.ofNat (mask / 2 ^ (8 * k))) = _
            rw [hx, hy]
          have hset := hby.set (p + k) (by rw [HLB.out]; omega) y
          rw [← hstep] at hset
          have HS := Lib.hid hset
          clear hx hby hset hstep
          have hpk : (p : Int) + k < f.1.size := by omega
          rcases (show k = 0 ∨ k = 1 ∨ k = 2 ∨ k = 3 by omega) with rfl | rfl | rfl | rfl
          · have hv : bits .xor .u8 (x.toNat : Int) ((mask : Int) % 256) = (y.toNat : Int) := by rw [← hy, ← xor_u8]; simp
            have HV := Lib.hid hv
            clear hv hy
            rw [Nat.add_zero] at c1 f1
            go_wp2
            go_region
            rw [HV.out]
            go_wp2
            go_roundw
            case rel => exact ⟨1, by omega, rfl, HS.out, (hbw.setCell (p := ⟨W2.heap.size, p + 0, none⟩) (Nat.le_refl _) _).trans ⟨rfl, rfl, rfl, Nat.le_refl _, fun _ _ => rfl⟩⟩
            case measure => simp [intOf]
          · have hv : bits .xor .u8 (x.toNat : Int) (((mask : Int) / 256) % 256) = (y.toNat : Int) := by rw [← hy, ← xor_u8]; simp
            have HV := Lib.hid hv
            clear hv hy
            go_wp2
            go_region
            rw [HV.out]
            go_wp2
            go_roundw
            case rel => exact ⟨2, by omega, rfl, HS.out, (hbw.setCell (p := ⟨W2.heap.size, p + 1, none⟩) (Nat.le_refl _) _).trans ⟨rfl, rfl, rfl, Nat.le_refl _, fun _ _ => rfl⟩⟩
            case measure => simp [intOf]
          · have hv : bits .xor .u8 (x.toNat : Int) (((mask : Int) / 65536) % 256) = (y.toNat : Int) := by rw [← hy, ← xor_u8]; simp
            have HV := Lib.hid hv
            clear hv hy
            go_wp2
            go_region
            rw [HV.out]
            go_wp2
            go_roundw
            case rel => exact ⟨3, by omega, rfl, HS.out, (hbw.setCell (p := ⟨W2.heap.size, p + 2, none⟩) (Nat.le_refl _) _).trans ⟨rfl, rfl, rfl, Nat.le_refl _, fun _ _ => rfl⟩⟩
            case measure => simp [intOf]
          · have hv : bits .xor .u8 (x.toNat : Int) ((mask : Int) / 16777216) = (y.toNat : Int) := by rw [← hy, ← xor_u8]; have e : ((mask / 2 ^ (8 * 3) : Nat) : Int) % 256 = (mask : Int) / 16777216 := (by simp only [show 2 ^ (8 * 3) = 16777216 from rfl]; omega); rw [e]
            have HV := Lib.hid hv
            clear hv hy
            go_wp2
            go_region
            rw [HV.out]
            go_wp2
            go_roundw
            case rel => exact ⟨4, by omega, rfl, HS.out, (hbw.setCell (p := ⟨W2.heap.size, p + 3, none⟩) (Nat.le_refl _) _).trans ⟨rfl, rfl, rfl, Nat.le_refl _, fun _ _ => rfl⟩⟩
            case measure => simp [intOf]
        · have hk5 : k = 4 := by omega
          subst hk5
          have HY := Lib.hid hby
          clear hby hk4 hk
          have hbwr : Below w.heap.size w wr := hb2.trans (hbw.mono hb2.size)
          go_wp2_with fail
          refine (Hlist.out wr hbwr).mono ?_
          rintro e w3 ⟨u, rfl, hrow, hO, rfl⟩
          obtain ⟨A, cc, rfl⟩ := own_shape hrow
          have hclone : Hid (Calls Try.prog 53 #[.slice A (L (a, b)).length cc] wr fun e w' => ∃ g' c', e = .returned (.slice (some ⟨g', 0, none⟩) (L (a, b)).length c') ∧ w'.ownsRow wr.heap.size 94 2 (.slice (some ⟨g', 0, none⟩) (L (a, b)).length c') (L (a, b)).length (frCells (L (a, b))) ∧ Below wr.heap.size wr w' ∧ BytesAt w' W2.heap.size (bendB bs p mask 4)) :=
            (clone_Fr _ _ _ (frCells_one _) (by omega) wr (Rd.of_own hrow)).mono fun e w3 ⟨v', h1, h2, h3⟩ => by
              obtain ⟨g', c', rfl⟩ := own_some h2 (by omega)
              refine ⟨g', c', h1, h2, h3, fun j hj => ⟨cell_below h3 (HY.out j hj).1, ?_⟩⟩
              have h5 := (HY.out j hj).1
              have h6 : W2.heap.size < wr.heap.size := by
                rcases Nat.lt_or_ge W2.heap.size wr.heap.size with h | h
                · exact h
                · simp [World.cell?, Array.getElem?_eq_none h] at h5
              have h7 := (HY.out j hj).2
              unfold World.frozen? at h7 ⊢
              rw [h3.block _ h6]
              exact h7
          clear hrow hO
          go_wp2_with ((go_at_call 53; refine hclone.out.mono ?_; rintro e w4 ⟨g4, c4, rfl, hrow4, hb4, hby4⟩; have HB4 := Lib.hid hby4; clear hby4))
          have hcv := string_back HB4.out f.1.size (HLB.out 4) cap0
          have c4a : w4.cell? ⟨g4, n * 2, none⟩ = some (.string (L (a, b))[n].1) := by rw [hrow4.cellAt _ (by omega)]; exact (frCells_at _ _ hn).1
          have f4a := hrow4.frozenAt (n * 2)
          obtain ⟨S, hS⟩ : ∃ S : ByteArray, ⟨(bendB bs p mask 4).toArray⟩ = S := ⟨_, rfl⟩
          rw [hS] at hcv HT
          have hst := hrow4.stored (n * 2) (.string S)
          rw [frCells_set1 _ _ _ hn] at hst
          obtain ⟨hst1, hst2⟩ := hst
          have hput : Hid (Calls Try.prog 52 #[.pointer (some ⟨g, 0, none⟩), .agg #[.int .i64 a, .int .i64 b], .slice (some ⟨g4, 0, none⟩) (L (a, b)).length c4] (w4.setCell ⟨g4, n * 2, none⟩ (.string S)) fun e w' => e = .returned (.tuple #[]) ∧ NetStep n0 w O g peers (upd L (a, b) ((L (a, b)).set n (S, f.2))) mb w') := by
            have hge : wr.heap.size ≤ g4 := own_ge' hrow4 g4 rfl
            have hb5 : Below w.heap.size w (w4.setCell ⟨g4, n * 2, none⟩ (.string S)) := (hbwr.trans (hb4.mono hbwr.size)).setCell (p := ⟨g4, n * 2, none⟩) (Nat.le_trans hbwr.size hge) _
            rw [← HF2.out] at hst1
            refine (put_fresh HH.out hb5 a b _ ((L (a, b)).set n (S, f.2)) (own_lower (by rw [List.length_set]; exact hst1) hbwr.size) (by rw [List.length_set]; exact hm8)).mono ?_
            rintro e w6 ⟨rfl, hs, _⟩
            exact ⟨rfl, hs⟩
          clear hst1 hst2 hrow4 hb4
          rw [hcv]
          clear hcv hS
          go_wp2_with (go_at_call 52; refine hput.out.mono ?_; rintro e w5 ⟨rfl, hstep⟩)
          go_ret
          rw [HT.out]
          exact ⟨rfl, hstep⟩
  · have hc0 : (c != 0) = true := by simpa using h0
    have HT : Hid (bendM peers L a b i at_ mask = (c, L)) := by simp [Hid, bendM, hc, h0]
    clear hfind h hc hf h0 hsz
    go_enter Try.func32, Try.ntmps32
    go_wp2_with ((go_at_call 54; refine HF.out.mono ?_; rintro e w' ⟨rfl, hb⟩))
    go_ret
    rw [HT.out]
    exact ⟨rfl, NetStep.same HH.out (hb.alloc hb.size _)⟩
end
end Go.Proofs.Ytnnmhpplmihidaa
