/- The laws LinesQuotes, LinesLine, LinesReads: their walks. -/
import Derived.Test.YtmeneoanmfpecaaDoorAwake37
import Derived.Test.YtmeneoanmfpecaaDoorRUnquote
import Derived.Test.YtmeneoanmfpecaaDoorRefLine
namespace Go.Proofs.YtmeneoanmfpecaaDoor
set_option linter.unusedVariables false
set_option linter.unusedSimpArgs false
open Go.RowKit

theorem lineT_bd' (x : OpR) : (lineT x).length ≤ 1717 := by
  unfold lineT
  split
  · rename_i h
    have h1 : ((numP x.k.toNat).flatMap x.numT).length ≤ 22 * 5 := by
      have a := flat_le x.numT 22 (numP x.k.toNat) (fun i hi => numT_bd x h i ((numP_bd x.k.toNat).2 i hi).2)
      have b := (numP_bd x.k.toNat).1
      have c : 22 * (numP x.k.toNat).length ≤ 22 * 5 := Nat.mul_le_mul_left 22 b
      omega
    have h2 : ((textP x.k.toNat).flatMap x.textT).length ≤ 800 * 2 := by
      have a := flat_le x.textT 800 (textP x.k.toNat) (fun i hi => textT_bd x h i)
      have b := (textP_bd x.k.toNat).1
      have c : 800 * (textP x.k.toNat).length ≤ 800 * 2 := Nat.mul_le_mul_left 800 b
      omega
    have h3 := word_bd x.k.toNat
    unfold lineM
    rw [List.length_append, List.length_append]
    omega
  · simp

set_option maxHeartbeats 4000000 in
set_option maxRecDepth 100000 in
theorem linesQuotes_any (s t : ByteArray) (w : World) (hd : Door2 w) :
    Calls Tryd.prog 9 #[.string s, .string t] w fun e w' => e = .returned (.bool true) ∧ Below w.heap.size w w' := by
  have HA : Hid (∀ w', Below w.heap.size w w' → Calls Tryd.prog 37 #[] w' fun e w'' => e = .returned (.bool true) ∧ Below w.heap.size w w'') := fun w' hb => (awake37_any w' (hd.below hb)).mono fun e w'' h => ⟨h.1, hb.trans (h.2.mono hb.size)⟩
  clear hd
  by_cases h1 : 600 < (s.size : Int)
  · go_enter Tryd.func9, Tryd.ntmps9
    go_wp2_with fail
    refine (HA.out w (Below.refl _ _)).mono ?_
    rintro e w' ⟨rfl, hb⟩
    have HB := Lib.hid hb
    clear hb
    go_wp2_with fail
    go_ret
    exact ⟨rfl, HB.out⟩
  by_cases h2 : 600 < (t.size : Int)
  · go_enter Tryd.func9, Tryd.ntmps9
    go_wp2_with fail
    refine (HA.out w (Below.refl _ _)).mono ?_
    rintro e w' ⟨rfl, hb⟩
    have HB := Lib.hid hb
    clear hb
    go_wp2_with fail
    go_ret
    exact ⟨rfl, HB.out⟩
  obtain ⟨y, k, er, hu⟩ : ∃ y k er, unquoteM t.data.toList = (y, k, er) := ⟨_, _, _, rfl⟩
  obtain ⟨Y, hY⟩ : ∃ Y : ByteArray, ⟨y.toArray⟩ = Y := ⟨_, rfl⟩
  obtain ⟨Q, hQ⟩ : ∃ Q : ByteArray, ⟨(quoteL s.data.toList).toArray⟩ = Q := ⟨_, rfl⟩
  have hQl : Q.data.toList = quoteL s.data.toList := by rw [← hQ]
  have hsl : s.data.toList.length = s.size := by simp
  have hQz : Q.size ≤ 1802 := by
    rw [← hQ]
    show (quoteL s.data.toList).length ≤ 1802
    have := quoteL_bd s.data.toList
    omega
  obtain ⟨U, hU⟩ : ∃ U : ByteArray, Q ++ t = U := ⟨_, rfl⟩
  have hUz : U.size ≤ 3000 := by rw [← hU, ByteArray.size_append]; omega
  have hUl : U.data.toList = quoteL s.data.toList ++ t.data.toList := by
    rw [← hU, ← hQl]
    simp
  have HU1 : Hid (∀ w', Below w.heap.size w w' → (Calls Tryd.prog 38 #[.string t] w' fun e w'' => e = .returned (.tuple #[.string Y, .int .i64 k, .int .i64 er]) ∧ Below w.heap.size w w'') ∧ (Calls Tryd.prog 39 #[.string t] w' fun e w'' => e = .returned (.tuple #[.string Y, .int .i64 k, .int .i64 er]) ∧ Below w.heap.size w w'')) := Lib.hid (fun w' hb => by
    have e1 : unqV (unquoteM t.data.toList) = .tuple #[.string Y, .int .i64 k, .int .i64 er] := by rw [hu, unqV, hY]
    rw [← e1]
    exact ⟨(unquote_any t (by omega) w').mono fun e w'' h => ⟨h.1, hb.trans (h.2.mono hb.size)⟩, (runquote_any t (by omega) w').mono fun e w'' h => ⟨h.1, hb.trans (h.2.mono hb.size)⟩⟩)
  have HU2 : Hid (∀ w', Below w.heap.size w w' → Calls Tryd.prog 38 #[.string U] w' fun e w'' => e = .returned (.tuple #[.string s, .int .i64 Q.size, .int .i64 0]) ∧ Below w.heap.size w w'') := Lib.hid (fun w' hb => by
    have e1 : unqV (unquoteM U.data.toList) = .tuple #[.string s, .int .i64 Q.size, .int .i64 0] := by
      rw [hUl, unquote_quote, unqV]
      have e2 : (⟨s.data.toList.toArray⟩ : ByteArray) = s := by apply ByteArray.ext; simp
      have e3 : (quoteL s.data.toList).length = Q.size := by rw [← hQ]; rfl
      rw [e2, e3]
    rw [← e1]
    exact (unquote_any U (by omega) w').mono fun e w'' h => ⟨h.1, hb.trans (h.2.mono hb.size)⟩)
  have HQ : Hid (∀ w', Below w.heap.size w w' → (Calls Tryd.prog 40 #[.string s] w' fun e w'' => e = .returned (.string Q) ∧ Below w.heap.size w w'') ∧ (Calls Tryd.prog 41 #[.string s] w' fun e w'' => e = .returned (.string Q) ∧ Below w.heap.size w w'')) := Lib.hid (fun w' hb => by
    rw [← hQ]
    exact ⟨(quote_any s (by omega) w').mono fun e w'' h => ⟨h.1, hb.trans (h.2.mono hb.size)⟩, (rquote_any s (by omega) w').mono fun e w'' h => ⟨h.1, hb.trans (h.2.mono hb.size)⟩⟩)
  have hadd : ¬ 9223372036854775807 < Q.size + t.size := by omega
  clear hu hY hQ hQl hsl hUz hUl
  go_enter Tryd.func9, Tryd.ntmps9
  go_wp2_with fail
  refine (HU1.out w (Below.refl _ _)).1.mono ?_
  rintro e w1 ⟨rfl, hb⟩
  have HB1 := Lib.hid hb
  clear hb
  go_wp2_with fail
  refine (HU1.out w1 HB1.out).2.mono ?_
  rintro e w2 ⟨rfl, hb⟩
  have HB2 := Lib.hid hb
  clear hb
  go_wp2_with fail
  refine (HQ.out w2 HB2.out).1.mono ?_
  rintro e w3 ⟨rfl, hb⟩
  have HB3 := Lib.hid hb
  clear hb
  go_wp2_with fail
  refine (HU2.out w3 HB3.out).mono ?_
  rintro e w4 ⟨rfl, hb⟩
  have HB4 := Lib.hid hb
  clear hb
  go_wp2_with fail
  refine ((HQ.out w4 HB4.out).1).mono ?_
  rintro e w5 ⟨rfl, hb⟩
  have HB5 := Lib.hid hb
  clear hb
  go_wp2_with fail
  refine ((HQ.out w5 HB5.out).2).mono ?_
  rintro e w6 ⟨rfl, hb⟩
  have HB6 := Lib.hid hb
  clear hb
  go_wp2_with fail
  refine ((HQ.out w6 HB6.out).1).mono ?_
  rintro e w7 ⟨rfl, hb⟩
  have HB7 := Lib.hid hb
  clear hb
  go_wp2_with fail
  refine (HA.out w7 HB7.out).mono ?_
  rintro e w8 ⟨rfl, hb⟩
  have HB8 := Lib.hid hb
  clear hb
  go_wp2_with fail
  go_ret
  exact ⟨rfl, HB8.out⟩

set_option maxHeartbeats 4000000 in
set_option maxRecDepth 100000 in
theorem linesReads_any (s : ByteArray) (w : World) (hd : Door2 w) :
    Calls Tryd.prog 11 #[.string s] w fun e w' => e = .returned (.bool true) ∧ Below w.heap.size w w' := by
  have HA : Hid (∀ w', Below w.heap.size w w' → Calls Tryd.prog 37 #[] w' fun e w'' => e = .returned (.bool true) ∧ Below w.heap.size w w'') := fun w' hb => (awake37_any w' (hd.below hb)).mono fun e w'' h => ⟨h.1, hb.trans (h.2.mono hb.size)⟩
  by_cases h1 : 2000 < (s.size : Int)
  · clear hd
    go_enter Tryd.func11, Tryd.ntmps11
    go_wp2_with fail
    refine (HA.out w (Below.refl _ _)).mono ?_
    rintro e w' ⟨rfl, hb⟩
    have HB := Lib.hid hb
    clear hb
    go_wp2_with fail
    go_ret
    exact ⟨rfl, HB.out⟩
  have HRD := Lib.hid (read_any s (by omega) w hd)
  rcases read_zero_or s.data.toList with hz | hz
  · obtain ⟨x, e0, hx⟩ : ∃ x e, readM s.data.toList = (x, e) := ⟨_, _, rfl⟩
    rw [hx] at hz
    simp only at hz
    subst hz
    obtain ⟨hck, hl⟩ := read_back hx
    rw [hx] at HRD
    have hT : (⟨(lineT x).toArray⟩ : ByteArray) = s := by
      apply ByteArray.ext
      rw [lineT, if_pos hck, ← hl]
    have HL : Hid (∀ w', Below w.heap.size w w' → Calls Tryd.prog 43 #[.agg x.cells] w' fun e w'' => e = .returned (.tuple #[.string s, .int .i64 0]) ∧ Below w.heap.size w w'') := Lib.hid (fun w' hb => by
      have h := rline_any x w' (hd.below hb).toDoor
      rw [hT, hck] at h
      exact h.mono fun e w'' h => ⟨h.1, hb.trans (h.2.mono hb.size)⟩)
    obtain ⟨k, p, t, n, a, m, u, v⟩ := x
    simp only [OpR.cells] at HRD HL
    clear hd hx hck hl hT
    go_enter Tryd.func11, Tryd.ntmps11
    go_wp2_with fail
    refine HRD.out.mono ?_
    rintro e w1 ⟨rfl, hb⟩
    have HB1 := Lib.hid hb
    clear hb
    have HB1' : Hid (∀ o, Below w.heap.size w (w1.alloc o)) := Lib.hid (fun o => HB1.out.alloc HB1.out.size o)
    go_wp2_with fail
    refine (HL.out _ (HB1'.out _)).mono ?_
    rintro e w2 ⟨rfl, hb⟩
    have HB2 := Lib.hid hb
    clear hb
    go_wp2_with fail
    refine (HA.out w2 HB2.out).mono ?_
    rintro e w3 ⟨rfl, hb⟩
    have HB3 := Lib.hid hb
    clear hb
    go_wp2_with fail
    go_ret
    exact ⟨rfl, HB3.out⟩
  · rw [hz] at HRD
    simp only [OpR.cells, zeroOp] at HRD
    have heq : ∀ w', (Op.equalIn 10000 30 (.agg #[.int .i64 0, .int .i64 0, .int .i64 0, .int .i64 0, .int .i64 0, .int .i64 0, .string ⟨#[]⟩, .string ⟨#[]⟩]) (.agg #[.int .i64 0, .int .i64 0, .int .i64 0, .int .i64 0, .int .i64 0, .int .i64 0, .string ⟨#[]⟩, .string ⟨#[]⟩])).run Tryd.prog w' = .ok true w' := fun w' => by
      have h := op_equal w' zeroOp zeroOp
      rw [opEq_self] at h
      exact h
    clear hd hz
    go_enter Tryd.func11, Tryd.ntmps11
    go_wp2_with fail
    refine HRD.out.mono ?_
    rintro e w1 ⟨rfl, hb⟩
    have HB1 := Lib.hid hb
    clear hb
    have HB1' : Hid (∀ o, Below w.heap.size w (w1.alloc o)) := Lib.hid (fun o => HB1.out.alloc HB1.out.size o)
    go_wp2_with fail
    refine (HA.out _ (HB1'.out _)).mono ?_
    rintro e w3 ⟨rfl, hb⟩
    have HB3 := Lib.hid hb
    clear hb
    go_wp2_with fail
    go_ret
    exact ⟨rfl, HB3.out⟩

set_option maxHeartbeats 4000000 in
set_option maxRecDepth 100000 in
theorem linesLine_any (x : OpR) (w : World) (hd : Door2 w) :
    Calls Tryd.prog 10 #[.agg x.cells] w fun e w' => e = .returned (.bool true) ∧ Below w.heap.size w w' := by
  obtain ⟨w1, hw1⟩ : ∃ W, w.alloc (.cells x.cells 30) = W := ⟨_, rfl⟩
  have hb1 : Below w.heap.size w w1 := by rw [← hw1]; exact (Below.refl _ _).alloc (Nat.le_refl _) _
  have hop : OpAt w1 w.heap.size x := by rw [← hw1]; exact World.alloc_heap_new _ _
  have hd1 := hd.below hb1
  have HA : Hid (∀ w', Below w1.heap.size w1 w' → Calls Tryd.prog 37 #[] w' fun e w'' => e = .returned (.bool true) ∧ Below w1.heap.size w1 w'') := fun w' hb => (awake37_any w' (hd1.below hb)).mono fun e w'' h => ⟨h.1, hb.trans (h.2.mono hb.size)⟩
  obtain ⟨ck, hck⟩ : ∃ ck, checkM x = ck := ⟨_, rfl⟩
  obtain ⟨S, hS⟩ : ∃ S : ByteArray, ⟨(lineT x).toArray⟩ = S := ⟨_, rfl⟩
  have HL1 : Hid (∀ w', Below w1.heap.size w1 w' → Calls Tryd.prog 42 #[.agg x.cells] w' fun e w'' => e = .returned (.tuple #[.string S, .int .i64 ck]) ∧ Below w1.heap.size w1 w'') := Lib.hid (fun w' hb => by
    rw [← hS, ← hck]
    exact (line_any x w' (hd1.below hb).toDoor).mono fun e w'' h => ⟨h.1, hb.trans (h.2.mono hb.size)⟩)
  have HL2 : Hid (∀ w', Below w1.heap.size w1 w' → Calls Tryd.prog 43 #[.agg x.cells] w' fun e w'' => e = .returned (.tuple #[.string S, .int .i64 ck]) ∧ Below w1.heap.size w1 w'') := Lib.hid (fun w' hb => by
    rw [← hS, ← hck]
    exact (rline_any x w' (hd1.below hb).toDoor).mono fun e w'' h => ⟨h.1, hb.trans (h.2.mono hb.size)⟩)
  have hSz : S.size ≤ 1717 := by rw [← hS]; exact lineT_bd' x
  have hSl : S.data.toList = lineT x := by rw [← hS]
  have HRD : Hid (∀ w', Below w1.heap.size w1 w' → Calls Tryd.prog 44 #[.string S] w' fun e w'' => e = .returned (.tuple #[.agg (readM (lineT x)).1.cells, .int .i64 (readM (lineT x)).2]) ∧ Below w1.heap.size w1 w'') := Lib.hid (fun w' hb => by
    rw [← hSl]
    exact (read_any S (by omega) w' (hd1.below hb)).mono fun e w'' h => ⟨h.1, hb.trans (h.2.mono hb.size)⟩)
  have HCELL : Hid (∀ w', Below w1.heap.size w1 w' → OpAt w' w.heap.size x) := Lib.hid (fun w' hb => hop.below hb)
  have HB1 := Lib.hid hb1
  have HRM0 : Hid (ck = 0 → readM (lineT x) = (x, 0)) := Lib.hid (fun h => by rw [lineT, if_pos (by rw [hck, h]), read_line x (by rw [hck, h])])
  have HRM1 : Hid (ck ≠ 0 → readM (lineT x) = (zeroOp, 16)) := Lib.hid (fun h => by rw [lineT, if_neg (by rw [hck]; exact h), read_nil])
  have HSELF : Hid (∀ w', (Op.equalIn 10000 30 (.agg x.cells) (.agg x.cells)).run Tryd.prog w' = .ok true w') := Lib.hid (fun w' => by
    have h := op_equal w' x x
    rw [opEq_self] at h
    exact h)
  obtain ⟨d0, d1, d2, d3, d4, d5, d6, d7⟩ := op_cells (HCELL.out w1 (Below.refl _ _))
  obtain ⟨R, hR⟩ : ∃ R, readM (lineT x) = R := ⟨_, rfl⟩
  rw [hR] at HRD HRM0 HRM1
  obtain ⟨k, p, t, n, a, m, u, v⟩ := x
  simp only [OpR.cells] at hw1 HL1 HL2 HSELF
  simp only at d0 d1 d2 d3 d4 d5 d6 d7
  clear hd hb1 hop hd1 hck hS hSz hSl hR
  show Calls Tryd.prog 10 #[.agg #[.int .i64 k, .int .i64 p, .int .i64 t, .int .i64 n, .int .i64 a, .int .i64 m, .string u, .string v]] w _
  by_cases hu : 600 < (u.size : Int)
  · go_enter Tryd.func10, Tryd.ntmps10
    go_wp2_with fail
    refine (HA.out w1 (Below.refl _ _)).mono ?_
    rintro e w' ⟨rfl, hb⟩
    have HB := Lib.hid hb
    clear hb
    go_wp2_with fail
    go_ret
    exact ⟨rfl, HB1.out.trans (HB.out.mono HB1.out.size)⟩
  by_cases hv : 600 < (v.size : Int)
  · go_enter Tryd.func10, Tryd.ntmps10
    go_wp2_with fail
    refine (HA.out w1 (Below.refl _ _)).mono ?_
    rintro e w' ⟨rfl, hb⟩
    have HB := Lib.hid hb
    clear hb
    go_wp2_with fail
    go_ret
    exact ⟨rfl, HB1.out.trans (HB.out.mono HB1.out.size)⟩
  go_enter Tryd.func10, Tryd.ntmps10
  go_wp2_with fail
  refine (HL1.out w1 (Below.refl _ _)).mono ?_
  rintro e w2 ⟨rfl, hb⟩
  have HB2 := Lib.hid hb
  clear hb d0 d1 d2 d3 d4 d5 d6 d7
  obtain ⟨d0, d1, d2, d3, d4, d5, d6, d7⟩ := op_cells (HCELL.out w2 HB2.out)
  simp only at d0 d1 d2 d3 d4 d5 d6 d7
  go_wp2_with fail
  refine (HL2.out w2 HB2.out).mono ?_
  rintro e w3 ⟨rfl, hb⟩
  have HB3 := Lib.hid hb
  clear hb d0 d1 d2 d3 d4 d5 d6 d7
  go_wp2_with fail
  refine (HRD.out w3 HB3.out).mono ?_
  rintro e w4 ⟨rfl, hb⟩
  have HB4 := Lib.hid hb
  clear hb
  by_cases hc : ck = 0
  · rw [HRM0.out hc]
    subst hc
    have heq := HSELF.out
    simp only [OpR.cells]
    have HB5 : Hid (∀ o, Below w1.heap.size w1 (w4.alloc o)) := Lib.hid (fun o => HB4.out.alloc HB4.out.size o)
    obtain ⟨d0, d1, d2, d3, d4, d5, d6, d7⟩ := op_cells (HCELL.out _ (HB5.out (.cells #[.int .i64 k, .int .i64 p, .int .i64 t, .int .i64 n, .int .i64 a, .int .i64 m, .string u, .string v] 30)))
    simp only at d0 d1 d2 d3 d4 d5 d6 d7
    go_wp2_with fail
    refine (HA.out _ (HB5.out _)).mono ?_
    rintro e w6 ⟨rfl, hb⟩
    have HB6 := Lib.hid hb
    clear hb
    go_wp2_with fail
    go_ret
    exact ⟨rfl, HB1.out.trans (HB6.out.mono HB1.out.size)⟩
  · rw [HRM1.out hc]
    have hc2 : (ck == 0) = false := by simpa using hc
    have hc3 : (ck != 0) = true := by simpa using hc
    have HB5 : Hid (∀ o, Below w1.heap.size w1 (w4.alloc o)) := Lib.hid (fun o => HB4.out.alloc HB4.out.size o)
    simp only [OpR.cells, zeroOp]
    clear hc
    go_wp2_with fail
    refine (HA.out _ (HB5.out _)).mono ?_
    rintro e w6 ⟨rfl, hb⟩
    have HB6 := Lib.hid hb
    clear hb
    go_wp2_with fail
    go_ret
    exact ⟨rfl, HB1.out.trans (HB6.out.mono HB1.out.size)⟩
end Go.Proofs.YtmeneoanmfpecaaDoor
