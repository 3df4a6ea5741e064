/- package lines: Read. -/
import Derived.Test.YtmeneoanmfpecaaDoorReadTxt
namespace Go.Proofs.YtmeneoanmfpecaaDoor
set_option linter.unusedVariables false
set_option linter.unusedSimpArgs false
open Go.RowKit

theorem info_op : (Tryd.prog.info? 30).map (·.size) = some 8 := by kernel_rfl
theorem results_op {fn : Func} {p q : Tmp} (h : fn.results = #[.cell p 30, .tmp q]) (tmps : Array Value) (w : World) (g : Nat) (x : OpR) (hp : tmps.getD p undef = .pointer (some ⟨g, 0, none⟩)) (hg : OpAt w g x) :
    (results fn tmps).run Tryd.prog w = .ok (.tuple #[.agg x.cells, tmps.getD q undef]) w := by
  have hp' : tmps[p]?.getD undef = .pointer (some ⟨g, 0, none⟩) := by simpa using hp
  have hi : (Tryd.prog.info? 30).map (·.size) = some x.cells.size := info_op
  simp [results, h, hp', asAddr, run_loadVar_row w g 30 30 x.cells (0, 0) _ hg Tryd.underlying30 rfl hi]

theorem numStep_k (st : List UInt8 × Bool × OpR) (i : Nat) : (numStep st i).2.2.k = st.2.2.k := by
  unfold numStep
  split
  · split
    · unfold OpR.setNum; split <;> rfl
    · rfl
  · rfl
theorem nums_k (l : List Nat) : ∀ st, (l.foldl numStep st).2.2.k = st.2.2.k := by
  induction l with
  | nil => intro st; rfl
  | cons i l ih => intro st; rw [List.foldl_cons, ih, numStep_k]
theorem foldl_take {α β : Type} (f : β → α → β) (l : List α) (k : Nat) (h : k < l.length) (b : β) : (l.take (k + 1)).foldl f b = f ((l.take k).foldl f b) l[k] := by
  rw [List.take_succ_eq_append_getElem h, List.foldl_append]
  rfl
theorem numM_len {l r : List UInt8} {v : Int} (h : numM l = some (v, r)) : r.length ≤ l.length := by
  cases l with
  | nil => cases h
  | cons c t =>
    simp only [numM] at h
    split at h
    · split at h
      · split at h
        · injection h with h
          injection h with h1 h2
          rw [← h2]
          have := (List.dropWhile_sublist nb (l := t)).length_le
          simp only [List.length_cons]
          omega
        · cases h
      · cases h
    · cases h
theorem txtM_len {l r v : List UInt8} (h : txtM l = some (v, r)) : r.length ≤ l.length := by
  cases l with
  | nil => cases h
  | cons c t =>
    simp only [txtM] at h
    split at h
    · split at h
      · injection h with h
        injection h with h1 h2
        rw [← h2, List.length_drop, List.length_cons]
        omega
      · cases h
    · cases h
theorem numStep_len (st : List UInt8 × Bool × OpR) (i : Nat) : (numStep st i).1.length ≤ st.1.length := by
  unfold numStep
  split
  · split
    · rename_i h; exact numM_len h
    · simp
  · exact Nat.le_refl _
theorem txtStep_len (st : List UInt8 × Bool × OpR) (i : Nat) : (txtStep st i).1.length ≤ st.1.length := by
  unfold txtStep
  split
  · split
    · rename_i h; exact txtM_len h
    · simp
  · exact Nat.le_refl _
theorem nums_len (l : List Nat) : ∀ st, (l.foldl numStep st).1.length ≤ st.1.length := by
  induction l with
  | nil => intro st; exact Nat.le_refl _
  | cons i l ih => intro st; rw [List.foldl_cons]; exact Nat.le_trans (ih _) (numStep_len _ _)
theorem txts_len (l : List Nat) : ∀ st, (l.foldl txtStep st).1.length ≤ st.1.length := by
  induction l with
  | nil => intro st; exact Nat.le_refl _
  | cons i l ih => intro st; rw [List.foldl_cons]; exact Nat.le_trans (ih _) (txtStep_len _ _)

/-- Where the reading stands: the operation at block b, the result's block as it was laid. -/
structure ReadSt (rb b : Nat) (x : OpR) (w0 w : World) : Prop where
  op : OpAt w b x
  res : OpAt w rb zeroOp
  below : Below w0.heap.size w0 w
  lt : rb < b
  ge : w0.heap.size ≤ rb
theorem ReadSt.step {rb b : Nat} {x y : OpR} {w0 w w' : World} (h : ReadSt rb b x w0 w) (hs : Stored b y w w') : ReadSt rb b y w0 w' := by
  have hb : b < w.heap.size := by
    rcases Nat.lt_or_ge b w.heap.size with h1 | h1
    · exact h1
    · have := h.op; unfold OpAt at this; rw [Array.getElem?_eq_none h1] at this; cases this
  refine ⟨hs.at_, ?_, h.below.trans (hs.below (by have := h.lt; have := h.ge; omega) hb), h.lt, h.ge⟩
  unfold OpAt
  rw [hs.block rb (by have := h.lt; omega) (by have := h.lt; omega)]
  exact h.res
theorem ReadSt.below' {rb b : Nat} {x : OpR} {w0 w w' : World} (h : ReadSt rb b x w0 w) (hb : Below w.heap.size w w') : ReadSt rb b x w0 w' :=
  ⟨h.op.below hb, h.res.below hb, h.below.trans (hb.mono h.below.size), h.lt, h.ge⟩
/-- A row of pointers into block b. -/
def PtrRow (g b : Nat) (l : List Nat) (w : World) : Prop := ∀ j (hj : j < l.length), w.cell? ⟨g, j, none⟩ = some (.pointer (some ⟨b, l[j], none⟩))
theorem PtrRow.step {g b : Nat} {l : List Nat} {x y : OpR} {w w' : World} (h : PtrRow g b l w) (hx : OpAt w b x) (hs : Stored b y w w') : PtrRow g b l w' := fun j hj => by
  have hc := h j hj
  have hne : g ≠ b := by
    rintro rfl
    rw [Lib.cell_of_heap hx] at hc
    have hj8 : j < 8 := by
      rcases Nat.lt_or_ge j 8 with h1 | h1
      · exact h1
      · rw [Array.getElem?_eq_none (by show 8 ≤ j; exact h1)] at hc; cases hc
    rcases (show j = 0 ∨ j = 1 ∨ j = 2 ∨ j = 3 ∨ j = 4 ∨ j = 5 ∨ j = 6 ∨ j = 7 by omega) with rfl | rfl | rfl | rfl | rfl | rfl | rfl | rfl <;> (simp [OpR.cells] at hc)
  have hlt : g < w.heap.size := by
    rcases Nat.lt_or_ge g w.heap.size with h1 | h1
    · exact h1
    · simp [World.cell?, Array.getElem?_eq_none h1] at hc
  rw [World.cell?_of_block (w := w) (hs.block g hlt hne)]
  exact hc
theorem PtrRow.below {g b : Nat} {l : List Nat} {w w' : World} (h : PtrRow g b l w) (hb : Below w.heap.size w w') : PtrRow g b l w' := fun j hj => cell_below hb (h j hj)

/-- An operation, put cell by cell. -/
def put8 (w : World) (b : Nat) (x : OpR) : World := (((((((w.setCell ⟨b, 0, none⟩ (.int .i64 x.k)).setCell ⟨b, 1, none⟩ (.int .i64 x.p)).setCell ⟨b, 2, none⟩ (.int .i64 x.t)).setCell ⟨b, 3, none⟩ (.int .i64 x.n)).setCell ⟨b, 4, none⟩ (.int .i64 x.a)).setCell ⟨b, 5, none⟩ (.int .i64 x.m)).setCell ⟨b, 6, none⟩ (.string x.u)).setCell ⟨b, 7, none⟩ (.string x.v)
theorem put8_at {w : World} {b : Nat} {y : OpR} (x : OpR) (h : OpAt w b y) : OpAt (put8 w b x) b x := by
  unfold OpAt at h ⊢
  unfold put8
  have h0 := Go.Joins.block_setCell (i := 0) h (.int .i64 x.k)
  have h1 := Go.Joins.block_setCell (i := 1) h0 (.int .i64 x.p)
  have h2 := Go.Joins.block_setCell (i := 2) h1 (.int .i64 x.t)
  have h3 := Go.Joins.block_setCell (i := 3) h2 (.int .i64 x.n)
  have h4 := Go.Joins.block_setCell (i := 4) h3 (.int .i64 x.a)
  have h5 := Go.Joins.block_setCell (i := 5) h4 (.int .i64 x.m)
  have h6 := Go.Joins.block_setCell (i := 6) h5 (.string x.u)
  rw [Go.Joins.block_setCell (i := 7) h6 (.string x.v)]
  simp [OpR.cells]
theorem put8_below {w0 w : World} {b : Nat} (x : OpR) (h : Below w0.heap.size w0 w) (hb : w0.heap.size ≤ b) : Below w0.heap.size w0 (put8 w b x) :=
  (((((((h.setCell hb _).setCell hb _).setCell hb _).setCell hb _).setCell hb _).setCell hb _).setCell hb _).setCell hb _
theorem op_cells {w : World} {b : Nat} {x : OpR} (h : OpAt w b x) : w.cell? ⟨b, 0, none⟩ = some (.int .i64 x.k) ∧ w.cell? ⟨b, 1, none⟩ = some (.int .i64 x.p) ∧ w.cell? ⟨b, 2, none⟩ = some (.int .i64 x.t) ∧ w.cell? ⟨b, 3, none⟩ = some (.int .i64 x.n) ∧ w.cell? ⟨b, 4, none⟩ = some (.int .i64 x.a) ∧ w.cell? ⟨b, 5, none⟩ = some (.int .i64 x.m) ∧ w.cell? ⟨b, 6, none⟩ = some (.string x.u) ∧ w.cell? ⟨b, 7, none⟩ = some (.string x.v) :=
  ⟨Lib.cell_of_heap h 0, Lib.cell_of_heap h 1, Lib.cell_of_heap h 2, Lib.cell_of_heap h 3, Lib.cell_of_heap h 4, Lib.cell_of_heap h 5, Lib.cell_of_heap h 6, Lib.cell_of_heap h 7⟩
theorem op_frozen {w : World} {b : Nat} {x : OpR} (h : OpAt w b x) : w.frozen? ⟨b, 0, none⟩ = false ∧ w.frozen? ⟨b, 1, none⟩ = false ∧ w.frozen? ⟨b, 2, none⟩ = false ∧ w.frozen? ⟨b, 3, none⟩ = false ∧ w.frozen? ⟨b, 4, none⟩ = false ∧ w.frozen? ⟨b, 5, none⟩ = false ∧ w.frozen? ⟨b, 6, none⟩ = false ∧ w.frozen? ⟨b, 7, none⟩ = false :=
  ⟨Lib.frozen_of_heap h 0, Lib.frozen_of_heap h 1, Lib.frozen_of_heap h 2, Lib.frozen_of_heap h 3, Lib.frozen_of_heap h 4, Lib.frozen_of_heap h 5, Lib.frozen_of_heap h 6, Lib.frozen_of_heap h 7⟩

/-- A number's step, as the walk takes it. -/
theorem num_step (s : ByteArray) (l : List UInt8) (hl : s.data.toList = l) (hs : s.size ≤ 1000000) (rb b i : Nat) (h0 : 1 ≤ i) (h5 : i ≤ 5) (x : OpR) (w0 w : World) (hd : Door2 w) (hr : ReadSt rb b x w0 w) (g : Nat) (P : List Nat) (hp : PtrRow g b P w) :
    Calls Tryd.prog 91 #[.string s, .pointer (some ⟨b, i, none⟩)] w fun e w' => ∃ r : ByteArray, e = .returned (.tuple #[.string r, .bool (numStep (l, true, x) i).2.1]) ∧ r.data.toList = (numStep (l, true, x) i).1 ∧ ReadSt rb b (numStep (l, true, x) i).2.2 w0 w' ∧ PtrRow g b P w' := by
  refine (number_any s hs b i h0 h5 x w hd hr.op).mono ?_
  intro e w' h
  unfold NumPost at h
  rw [hl] at h
  simp only [numStep, if_pos]
  cases hn : numM l with
  | none =>
    rw [hn] at h
    exact ⟨_, h.1, rfl, hr.step h.2, hp.step hr.op h.2⟩
  | some p =>
    obtain ⟨v, r⟩ := p
    rw [hn] at h
    exact ⟨_, h.1, rfl, hr.step h.2, hp.step hr.op h.2⟩
theorem txt_step (s : ByteArray) (l : List UInt8) (hl : s.data.toList = l) (hs : s.size ≤ 1000000) (rb b i : Nat) (hi : i = 6 ∨ i = 7) (x : OpR) (w0 w : World) (hr : ReadSt rb b x w0 w) (g : Nat) (P : List Nat) (hp : PtrRow g b P w) :
    Calls Tryd.prog 92 #[.string s, .pointer (some ⟨b, i, none⟩)] w fun e w' => ∃ r : ByteArray, e = .returned (.tuple #[.string r, .bool (txtStep (l, true, x) i).2.1]) ∧ r.data.toList = (txtStep (l, true, x) i).1 ∧ ReadSt rb b (txtStep (l, true, x) i).2.2 w0 w' ∧ PtrRow g b P w' := by
  refine (quoted_any s hs b i hi x w hr.op).mono ?_
  intro e w' h
  unfold TxtPost at h
  rw [hl] at h
  simp only [txtStep, if_pos]
  cases hn : txtM l with
  | none =>
    rw [hn] at h
    exact ⟨_, h.1, rfl, hr.step h.2, hp.step hr.op h.2⟩
  | some p =>
    obtain ⟨v, r⟩ := p
    rw [hn] at h
    exact ⟨_, h.1, rfl, hr.step h.2, hp.step hr.op h.2⟩

set_option maxHeartbeats 4000000 in
set_option maxRecDepth 100000 in
theorem read_any (s : ByteArray) (hs : s.size ≤ 1000000) (w : World) (hd : Door2 w) :
    Calls Tryd.prog 44 #[.string s] w fun e w' => e = .returned (.tuple #[.agg (readM s.data.toList).1.cells, .int .i64 (readM s.data.toList).2]) ∧ Below w.heap.size w w' := by
  obtain ⟨w1, hw1⟩ : ∃ W, w.alloc (.cells zeroOp.cells 30) = W := ⟨_, rfl⟩
  have hb1 : Below w.heap.size w w1 := by rw [← hw1]; exact (Below.refl _ _).alloc (Nat.le_refl _) _
  have hr1 : OpAt w1 w.heap.size zeroOp := by rw [← hw1]; exact World.alloc_heap_new _ _
  obtain ⟨l, hl⟩ : ∃ l, s.data.toList = l := ⟨_, rfl⟩
  have hlen : l.length = s.size := by rw [← hl]; simp
  have HCUT := Lib.hid (cutw_any s hs w1 (hd.below hb1))
  rw [hl] at HCUT
  obtain ⟨W, hW⟩ : ∃ W : ByteArray, ⟨(l.takeWhile nb).toArray⟩ = W := ⟨_, rfl⟩
  have hWl : W.data.toList = l.takeWhile nb := by rw [← hW]
  have hWz : W.size ≤ s.size := by
    rw [← hlen, ← hW]
    exact (List.takeWhile_sublist nb).length_le
  rw [hW] at HCUT
  obtain ⟨E, hE⟩ : ∃ E : ByteArray, s.extract W.size s.size = E := ⟨_, rfl⟩
  have hEl : E.data.toList = l.dropWhile nb := by
    rw [← hE, extract_list, hl, ← hW]
    exact drop_takeWhile l
  obtain ⟨K, is, hk⟩ : ∃ K is, kindM (l.takeWhile nb) = (K, is) := ⟨_, _, rfl⟩
  have hK : K < 13 := by have := kindM_lt (l.takeWhile nb); rw [hk] at this; exact this
  have HKIND : Hid (∀ w', Below w1.heap.size w1 w' → Calls Tryd.prog 90 #[.string W] w' fun e w'' => e = .returned (.tuple #[.int .i64 K, .bool is]) ∧ Below w1.heap.size w1 w'') := Lib.hid (fun w' hb => by
    have h := lkind_any W w' ((hd.below hb1).below hb).toDoor
    rw [hWl, hk] at h
    exact h.mono fun e w'' h => ⟨h.1, hb.trans (h.2.mono hb.size)⟩)
  simp only [zeroOp, OpR.cells] at hw1
  have HL := Lib.hid hl
  have HWS : (W.size : Int) ≤ s.size := by omega
  have HSS : (s.size : Int) ≤ 1000000 := by omega
  have HR1 := Lib.hid hr1
  have HB1 := Lib.hid hb1
  have HD := Lib.hid hd
  rw [hl]
  clear hd hr1 hb1 hlen hl hWl hWz hs hW
  go_enter Tryd.func44, Tryd.ntmps44
  go_wp2_with fail
  refine HCUT.out.mono ?_
  rintro e w2 ⟨⟨y, z, rfl⟩, hb2⟩
  have HB2 := Lib.hid hb2
  clear hb2
  go_wp2_with fail
  refine (HKIND.out w2 HB2.out).mono ?_
  rintro e w3 ⟨rfl, hb3⟩
  have HB3 := Lib.hid hb3
  clear hb3
  go_wp2_with fail
  obtain ⟨ST0, hST0⟩ : ∃ ST0 : List UInt8 × Bool × OpR, (l.dropWhile nb, is, { zeroOp with k := (K : Int) }) = ST0 := ⟨_, rfl⟩
  obtain ⟨w4, hw4⟩ : ∃ W, w3.alloc (.cells #[.int .i64 K, .int .i64 0, .int .i64 0, .int .i64 0, .int .i64 0, .int .i64 0, .string ⟨#[]⟩, .string ⟨#[]⟩] 30) = W := ⟨_, rfl⟩
  have h14 : Below w1.heap.size w1 w4 := by rw [← hw4]; exact HB3.out.alloc HB3.out.size _
  have hz1 : w.heap.size < w1.heap.size := by rw [← hw1]; simp
  have hrs0 : ReadSt w.heap.size w3.heap.size { zeroOp with k := (K : Int) } w w4 := ⟨by rw [← hw4]; exact World.alloc_heap_new _ _, HR1.out.below h14, HB1.out.trans (h14.mono HB1.out.size), by have := HB3.out.size; omega, Nat.le_refl _⟩
  have hNUM := numbers_any (K : Int) (by omega) (by omega) w3.heap.size w4 (by rw [Lib.cell_of_heap hrs0.op]; rfl)
  rw [Int.toNat_natCast] at hNUM
  have HNUM := Lib.hid hNUM
  have HK0 := Lib.hid hK
  have HST0 := Lib.hid hST0
  have HKM := Lib.hid hk
  have HEL := Lib.hid hEl
  have HRS0 := Lib.hid hrs0
  rw [hw4]
  have HEZ : Hid (E.size ≤ 1000000) := Lib.hid (by
    have h1 : E.data.toList.length = E.size := by simp
    rw [hEl] at h1
    have h2 := (List.dropWhile_sublist nb (l := l)).length_le
    have h3 : l.length = s.size := by rw [← HL.out]; simp
    omega)
  clear hNUM h14 hz1 hrs0 hK hST0 hk hEl hw1 hE HCUT HKIND HR1 HB1 HB2 HB3 hw4 HWS
  refine HNUM.out.mono ?_
  rintro e w5 ⟨g, c, rfl, hp, hb5⟩
  have HPR : Hid (PtrRow g w3.heap.size (numP K) w5) := Lib.hid hp
  have HRS : Hid (ReadSt w.heap.size w3.heap.size { zeroOp with k := (K : Int) } w w5) := Lib.hid (HRS0.out.below' hb5)
  have HI0 : Hid (E.data.toList = l.dropWhile nb ∧ ((numP K).take 0).foldl numStep ST0 = (l.dropWhile nb, is, { zeroOp with k := (K : Int) }) ∧ E.size ≤ 1000000) := Lib.hid ⟨HEL.out, HST0.out.symm, HEZ.out⟩
  clear hp hb5 HRS0 HNUM
  obtain ⟨N, hN⟩ : ∃ N, (numP K).length = N := ⟨_, rfl⟩
  have HNN := Lib.hid hN
  rw [hN]
  have hN8 : (N : Int) ≤ 8 := by
    rw [← hN]
    have := (numP_bd K).1
    omega
  clear hN
  go_wp2_with fail
  go_loopg [8, 10, 12, 34] N (fun g0 t8 t10 t12 t34 wr => ∃ (j : Nat) (r : List UInt8) (q : Bool) (x : OpR) (RS : ByteArray), Hid (g0 = N - j ∧ j ≤ N) ∧ t34 = .int .i64 j ∧ t8 = .bool q ∧ t10 = .string RS ∧ Hid (RS.data.toList = r ∧ ((numP K).take j).foldl numStep ST0 = (r, q, x) ∧ RS.size ≤ 1000000) ∧ Hid (ReadSt w.heap.size w3.heap.size x w wr) ∧ Hid (PtrRow g w3.heap.size (numP K) wr))
  case atStart => exact ⟨0, _, _, _, _, ⟨rfl, Nat.zero_le _⟩, rfl, rfl, rfl, HI0, HRS, HPR⟩
  case round =>
    clear HI0 HRS HPR
    obtain ⟨j, r, q, x, RS, HJ, rfl, rfl, rfl, HI, HRS, HPR⟩ := hrel
    by_cases hlt : j < N
    · have hlt' : (j : Int) < N := by omega
      have hjl : j < (numP K).length := by rw [HNN.out]; exact hlt
      have hc := HPR.out j hjl
      obtain ⟨i, hi⟩ : ∃ i, (numP K)[j] = i := ⟨_, rfl⟩
      have hib := (numP_bd K).2 i (by rw [← hi]; exact List.getElem_mem hjl)
      have HTK : Hid (((numP K).take (j + 1)).foldl numStep ST0 = numStep (r, q, x) i) := Lib.hid (by rw [foldl_take _ _ _ hjl, HI.out.2.1, hi])
      rw [hi] at hc
      cases q with
      | true =>
        have HC := Lib.hid (num_step RS r HI.out.1 HI.out.2.2 w.heap.size w3.heap.size i hib.1 hib.2 x w wr (HD.out.below HRS.out.below) HRS.out g (numP K) HPR.out)
        have hle := numStep_len (r, true, x) i
        obtain ⟨r2, q2, x2, hs2⟩ : ∃ r2 q2 x2, numStep (r, true, x) i = (r2, q2, x2) := ⟨_, _, _, rfl⟩
        rw [hs2] at HC HTK hle
        have HLE2 : Hid (r2.length ≤ RS.size) := Lib.hid (by
          have h1 : RS.data.toList.length = RS.size := by simp
          rw [HI.out.1] at h1
          simp only at hle
          omega)
        clear hle hs2 hib hi hjl
        go_wp2_with fail
        refine HC.out.mono ?_
        rintro e w' ⟨R2, rfl, hR2, hrs2, hpr2⟩
        have HI2 : Hid (R2.data.toList = r2 ∧ ((numP K).take (j + 1)).foldl numStep ST0 = (r2, q2, x2) ∧ R2.size ≤ 1000000) := Lib.hid ⟨hR2, HTK.out, by
          have h1 : R2.data.toList.length = R2.size := by simp
          rw [hR2] at h1
          have := HLE2.out
          have := HI.out.2.2
          omega⟩
        have HRS2 := Lib.hid hrs2
        have HPR2 := Lib.hid hpr2
        clear hR2 hrs2 hpr2
        go_wp2_with fail
        go_roundg (N - (j + 1))
        case rel => exact ⟨j + 1, r2, q2, x2, R2, ⟨rfl, hlt⟩, by go_num, rfl, rfl, HI2, HRS2, HPR2⟩
        case measure => have := HJ.out; omega
      | false =>
        have HI2 : Hid (RS.data.toList = r ∧ ((numP K).take (j + 1)).foldl numStep ST0 = (r, false, x) ∧ RS.size ≤ 1000000) := Lib.hid ⟨HI.out.1, by rw [HTK.out]; simp [numStep], HI.out.2.2⟩
        clear hib hi hjl
        go_wp2_with fail
        go_roundg (N - (j + 1))
        case rel => exact ⟨j + 1, r, false, x, RS, ⟨rfl, hlt⟩, by go_num, rfl, rfl, HI2, HRS, HPR⟩
        case measure => have := HJ.out; omega
    · have hlt' : ¬ (j : Int) < N := by omega
      have HALL : Hid ((numP K).foldl numStep ST0 = (r, q, x)) := Lib.hid (by
        have h := HI.out.2.1
        rwa [List.take_of_length_le (by rw [HNN.out]; omega)] at h)
      have HALL1 := Lib.hid HALL.out
      obtain ⟨ST1, hST1⟩ : ∃ ST1 : List UInt8 × Bool × OpR, (r, q, x) = ST1 := ⟨_, rfl⟩
      have hxk : x.k = K := by
        have h := nums_k (numP K) ST0
        rw [HALL.out, ← HST0.out] at h
        exact h
      have hTXT := texts_any (K : Int) (by omega) (by have := HK0.out; omega) w3.heap.size wr (by rw [Lib.cell_of_heap HRS.out.op, ← hxk]; rfl)
      rw [Int.toNat_natCast] at hTXT
      have HTXT := Lib.hid hTXT
      have HST1 := Lib.hid hST1
      have HI1 := Lib.hid HI.out.1
      have HI3 := Lib.hid HI.out.2.2
      clear hTXT hST1 hxk
      go_wp2_with fail
      refine HTXT.out.mono ?_
      rintro e w6 ⟨g, c2, rfl, hp, hb6⟩
      have HPR6 : Hid (PtrRow g w3.heap.size (textP K) w6) := Lib.hid hp
      have HRS6 : Hid (ReadSt w.heap.size w3.heap.size x w w6) := Lib.hid (HRS.out.below' hb6)
      clear hp hb6 HTXT HRS HPR HJ HALL HNN
      have HPR := HPR6
      have HRS := HRS6
      clear HPR6 HRS6
      have HI0 : Hid (RS.data.toList = r ∧ ((textP K).take 0).foldl txtStep ST1 = (r, q, x) ∧ RS.size ≤ 1000000) := Lib.hid ⟨HI1.out, HST1.out.symm, HI3.out⟩
      clear HI1 HI3 HI
      obtain ⟨N, hN⟩ : ∃ N, (textP K).length = N := ⟨_, rfl⟩
      have HNN := Lib.hid hN
      rw [hN]
      have hN8 : (N : Int) ≤ 8 := by
        rw [← hN]
        have := (textP_bd K).1
        omega
      clear hN
      go_wp2_with fail
      go_loopg [8, 10, 14, 48] N (fun g0 t8 t10 t12 t34 wr => ∃ (j : Nat) (r : List UInt8) (q : Bool) (x : OpR) (RS : ByteArray), Hid (g0 = N - j ∧ j ≤ N) ∧ t34 = .int .i64 j ∧ t8 = .bool q ∧ t10 = .string RS ∧ Hid (RS.data.toList = r ∧ ((textP K).take j).foldl txtStep ST1 = (r, q, x) ∧ RS.size ≤ 1000000) ∧ Hid (ReadSt w.heap.size w3.heap.size x w wr) ∧ Hid (PtrRow g w3.heap.size (textP K) wr))
      case atStart => exact ⟨0, _, _, _, _, ⟨rfl, Nat.zero_le _⟩, rfl, rfl, rfl, HI0, HRS, HPR⟩
      case round =>
        clear HI0 HRS HPR
        obtain ⟨j, r, q, x, RS, HJ, rfl, rfl, rfl, HI, HRS, HPR⟩ := hrel
        by_cases hlt : j < N
        · have hlt' : (j : Int) < N := by omega
          have hjl : j < (textP K).length := by rw [HNN.out]; exact hlt
          have hc := HPR.out j hjl
          obtain ⟨i, hi⟩ : ∃ i, (textP K)[j] = i := ⟨_, rfl⟩
          have hib := (textP_bd K).2 i (by rw [← hi]; exact List.getElem_mem hjl)
          have HTK : Hid (((textP K).take (j + 1)).foldl txtStep ST1 = txtStep (r, q, x) i) := Lib.hid (by rw [foldl_take _ _ _ hjl, HI.out.2.1, hi])
          rw [hi] at hc
          cases q with
          | true =>
            have HC := Lib.hid (txt_step RS r HI.out.1 HI.out.2.2 w.heap.size w3.heap.size i hib x w wr HRS.out g (textP K) HPR.out)
            have hle := txtStep_len (r, true, x) i
            obtain ⟨r2, q2, x2, hs2⟩ : ∃ r2 q2 x2, txtStep (r, true, x) i = (r2, q2, x2) := ⟨_, _, _, rfl⟩
            rw [hs2] at HC HTK hle
            have HLE2 : Hid (r2.length ≤ RS.size) := Lib.hid (by
              have h1 : RS.data.toList.length = RS.size := by simp
              rw [HI.out.1] at h1
              simp only at hle
              omega)
            clear hle hs2 hib hi hjl
            go_wp2_with fail
            refine HC.out.mono ?_
            rintro e w' ⟨R2, rfl, hR2, hrs2, hpr2⟩
            have HI2 : Hid (R2.data.toList = r2 ∧ ((textP K).take (j + 1)).foldl txtStep ST1 = (r2, q2, x2) ∧ R2.size ≤ 1000000) := Lib.hid ⟨hR2, HTK.out, by
              have h1 : R2.data.toList.length = R2.size := by simp
              rw [hR2] at h1
              have := HLE2.out
              have := HI.out.2.2
              omega⟩
            have HRS2 := Lib.hid hrs2
            have HPR2 := Lib.hid hpr2
            clear hR2 hrs2 hpr2
            go_wp2_with fail
            go_roundg (N - (j + 1))
            case rel => exact ⟨j + 1, r2, q2, x2, R2, ⟨rfl, hlt⟩, by go_num, rfl, rfl, HI2, HRS2, HPR2⟩
            case measure => have := HJ.out; omega
          | false =>
            have HI2 : Hid (RS.data.toList = r ∧ ((textP K).take (j + 1)).foldl txtStep ST1 = (r, false, x) ∧ RS.size ≤ 1000000) := Lib.hid ⟨HI.out.1, by rw [HTK.out]; simp [txtStep], HI.out.2.2⟩
            clear hib hi hjl
            go_wp2_with fail
            go_roundg (N - (j + 1))
            case rel => exact ⟨j + 1, r, false, x, RS, ⟨rfl, hlt⟩, by go_num, rfl, rfl, HI2, HRS, HPR⟩
            case measure => have := HJ.out; omega
        · have hlt' : ¬ (j : Int) < N := by omega
          have HALL : Hid ((textP K).foldl txtStep ST1 = (r, q, x)) := Lib.hid (by
            have h := HI.out.2.1
            rwa [List.take_of_length_le (by rw [HNN.out]; omega)] at h)
          have HRA : Hid (readAll l = (r, q, x)) := Lib.hid (by
            unfold readAll
            rw [HKM.out]
            simp only
            rw [HST0.out, HALL1.out, HST1.out, HALL.out])
          have HRM : Hid (readM l = if q = true ∧ r = [] ∧ checkM x = 0 then (x, 0) else (zeroOp, 16)) := Lib.hid (by
            unfold readM
            rw [HRA.out])
          have HRES : Hid (OpAt wr w.heap.size zeroOp) := Lib.hid HRS.out.res
          have HOP : Hid (OpAt wr w3.heap.size x) := Lib.hid HRS.out.op
          have HBB : Hid (Below w.heap.size w wr) := Lib.hid HRS.out.below
          have HRSL : Hid (RS.data.toList = r) := Lib.hid HI.out.1
          have HRC : Hid (∀ w', OpAt w' w.heap.size zeroOp → (w'.cell? ⟨w.heap.size, 0, none⟩ = some (.int .i64 0) ∧ w'.cell? ⟨w.heap.size, 1, none⟩ = some (.int .i64 0) ∧ w'.cell? ⟨w.heap.size, 2, none⟩ = some (.int .i64 0) ∧ w'.cell? ⟨w.heap.size, 3, none⟩ = some (.int .i64 0) ∧ w'.cell? ⟨w.heap.size, 4, none⟩ = some (.int .i64 0) ∧ w'.cell? ⟨w.heap.size, 5, none⟩ = some (.int .i64 0) ∧ w'.cell? ⟨w.heap.size, 6, none⟩ = some (.string ⟨#[]⟩) ∧ w'.cell? ⟨w.heap.size, 7, none⟩ = some (.string ⟨#[]⟩)) ∧
              (w'.frozen? ⟨w.heap.size, 0, none⟩ = false ∧ w'.frozen? ⟨w.heap.size, 1, none⟩ = false ∧ w'.frozen? ⟨w.heap.size, 2, none⟩ = false ∧ w'.frozen? ⟨w.heap.size, 3, none⟩ = false ∧ w'.frozen? ⟨w.heap.size, 4, none⟩ = false ∧ w'.frozen? ⟨w.heap.size, 5, none⟩ = false ∧ w'.frozen? ⟨w.heap.size, 6, none⟩ = false ∧ w'.frozen? ⟨w.heap.size, 7, none⟩ = false)) := Lib.hid (fun w' h => ⟨op_cells h, op_frozen h⟩)
          have HLT : Hid (w.heap.size < w3.heap.size) := Lib.hid HRS.out.lt
          clear HRS HPR HI HJ HALL HALL1 HNN HKM HST0 HST1 HK0 HEL HEZ HRA HL
          cases q with
          | false =>
            have HF : Hid (readM l = (zeroOp, 16)) := Lib.hid (by rw [HRM.out, if_neg (by simp)])
            obtain ⟨⟨e0, e1, e2, e3, e4, e5, e6, e7⟩, f0, f1, f2, f3, f4, f5, f6, f7⟩ := HRC.out _ HRES.out
            go_wp2_with fail
            refine bodyPost_ret (results_op rfl _ _ w.heap.size zeroOp rfl (put8_at zeroOp HRES.out)) rfl ?_
            rw [HF.out]
            exact ⟨rfl, put8_below zeroOp HBB.out (Nat.le_refl _)⟩
          | true =>
            by_cases hr0 : r = []
            · have hRS : RS = ByteArray.empty := by
                apply ByteArray.ext
                rw [← Array.toList_inj, HRSL.out, hr0]
                rfl
              have HRM2 : Hid (readM l = if checkM x = 0 then (x, 0) else (zeroOp, 16)) := Lib.hid (by rw [HRM.out, hr0]; simp)
              subst hRS
              obtain ⟨d0, d1, d2, d3, d4, d5, d6, d7⟩ := op_cells HOP.out
              have HCK := Lib.hid (check_any x wr (HD.out.below HBB.out).toDoor.flds)
              clear hr0 HRSL HRM
              obtain ⟨kk, pp, tt, nn, aa, mm, uu, vv⟩ := x
              simp only [OpR.cells] at HCK
              simp only at d0 d1 d2 d3 d4 d5 d6 d7
              go_wp2_with fail
              refine HCK.out.mono ?_
              rintro e w7 ⟨rfl, hb7⟩
              have HRES7 : Hid (OpAt w7 w.heap.size zeroOp) := Lib.hid (HRES.out.below hb7)
              have HOP7 := Lib.hid (OpAt.below HOP.out hb7)
              have HBB7 : Hid (Below w.heap.size w w7) := Lib.hid (HBB.out.trans (hb7.mono HBB.out.size))
              clear d0 d1 d2 d3 d4 d5 d6 d7 hb7
              obtain ⟨⟨e0, e1, e2, e3, e4, e5, e6, e7⟩, f0, f1, f2, f3, f4, f5, f6, f7⟩ := HRC.out _ HRES7.out
              by_cases hck : checkM ⟨kk, pp, tt, nn, aa, mm, uu, vv⟩ = 0
              · obtain ⟨d0, d1, d2, d3, d4, d5, d6, d7⟩ := op_cells HOP7.out
                have HF : Hid (readM l = (⟨kk, pp, tt, nn, aa, mm, uu, vv⟩, 0)) := Lib.hid (by rw [HRM2.out, if_pos hck])
                rw [hck]
                clear hck
                simp only at d0 d1 d2 d3 d4 d5 d6 d7
                go_wp2_with fail
                refine bodyPost_ret (results_op rfl _ _ w.heap.size ⟨kk, pp, tt, nn, aa, mm, uu, vv⟩ rfl (put8_at ⟨kk, pp, tt, nn, aa, mm, uu, vv⟩ HRES7.out)) rfl ?_
                rw [HF.out]
                exact ⟨rfl, put8_below ⟨kk, pp, tt, nn, aa, mm, uu, vv⟩ HBB7.out (Nat.le_refl _)⟩
              · have HF : Hid (readM l = (zeroOp, 16)) := Lib.hid (by rw [HRM2.out, if_neg hck])
                obtain ⟨ck, hckv⟩ : ∃ ck, checkM ⟨kk, pp, tt, nn, aa, mm, uu, vv⟩ = ck := ⟨_, rfl⟩
                rw [hckv] at hck ⊢
                have hck2 : (ck != 0) = true := by simpa using hck
                clear hck hckv
                go_wp2_with fail
                refine bodyPost_ret (results_op rfl _ _ w.heap.size zeroOp rfl (put8_at zeroOp HRES7.out)) rfl ?_
                rw [HF.out]
                exact ⟨rfl, put8_below zeroOp HBB7.out (Nat.le_refl _)⟩
            · have hRSe : RS.toList.isEmpty = false := by
                rw [ByteArray.toList_eq, HRSL.out]
                cases r with
                | nil => exact absurd rfl hr0
                | cons => rfl
              have hRSn : ¬ RS = ByteArray.empty := fun h => by
                rw [h] at hRSe
                exact absurd hRSe (by decide +kernel)
              have hRSl : ¬ RS.toList = [] := fun h => by rw [h] at hRSe; cases hRSe
              have HF : Hid (readM l = (zeroOp, 16)) := Lib.hid (by rw [HRM.out, if_neg (fun h => hr0 h.2.1)])
              obtain ⟨⟨e0, e1, e2, e3, e4, e5, e6, e7⟩, f0, f1, f2, f3, f4, f5, f6, f7⟩ := HRC.out _ HRES.out
              clear hr0
              go_wp2_with fail
              refine bodyPost_ret (results_op rfl _ _ w.heap.size zeroOp rfl (put8_at zeroOp HRES.out)) rfl ?_
              rw [HF.out]
              exact ⟨rfl, put8_below zeroOp HBB.out (Nat.le_refl _)⟩
end Go.Proofs.YtmeneoanmfpecaaDoor
