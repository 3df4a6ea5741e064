/- Arguments that are dots, versions, entries: opened. -/
import Derived.Test.YtmeneoanmfpecaaDoorRows
import Derived.Test.YtmeneoanmfpecaaDoorShow3
import Derived.Test.YtmeneoanmfpecaaDoorOpenEvent
import Derived.Lib.SmallJoins
import Derived.Deep.Slices
import Derived.Deep.Fields
import Derived.ChangeSame
namespace Go.Proofs.YtmeneoanmfpecaaDoor
set_option linter.unusedVariables false
set_option linter.unusedSimpArgs false
open Go.Joins Go.ChangeShapes Go.WideShapes Go.RowKit Go.Deep
section
variable {H : Type} {enc : TypeId × Value → H} {w : World} {base : Nat} {spare : Nat → Bool} {held : Bool}
theorem cBool : Tryd.prog.cellsOf 4 = 1 := by kernel_rfl
theorem cVersion : Tryd.prog.cellsOf 54 = 5 := by kernel_rfl
theorem cEntry : Tryd.prog.cellsOf 50 = 2 := by kernel_rfl
theorem cDots : Tryd.prog.cellsOf 42 = 1 := by kernel_rfl
theorem cVers : Tryd.prog.cellsOf 48 = 1 := by kernel_rfl
theorem cU8 : Tryd.prog.cellsOf 5 = 1 := by kernel_rfl
theorem cDigest : Tryd.prog.cellsOf 47 = 32 := by kernel_rfl

theorem bDot : Tryd.prog.bytesOf 32 = 16 := by kernel_rfl
theorem bVersion : Tryd.prog.bytesOf 54 = 64 := by kernel_rfl
/-- No part of a datum is greater than what may be read. -/
def Fit {H : Type} (t : TypeId) (d : DataW H) : Prop := ∀ n ∈ d.weights Tryd.prog t, n ≤ reachBytes
theorem weights_mem_all {H : Type} {P : Program} {e : TypeId} : ∀ {ds : List (DataW H)} {d : DataW H}, d ∈ ds → ∀ {n : Nat}, n ∈ d.weights P e → n ∈ DataW.weightsAll P e ds
  | d0 :: ds, d, hd, n, hn => by
    simp only [DataW.weightsAll, List.mem_append]
    rcases List.mem_cons.1 hd with rfl | h
    · exact .inl hn
    · exact .inr (weights_mem_all h hn)
theorem fit_struct {H : Type} {t : TypeId} {fs : Array Field} {parts : List (DataW H)} (ht : Tryd.prog.underlying t = some (.struct fs)) (h : Fit t (.agg parts : DataW H)) (j : Nat) (f : Field) (d : DataW H) (hf : fs[j]? = some f) (hd : parts[j]? = some d) : Fit f.type d := fun n hn => h n (by
  simp only [DataW.weights, ht]
  exact DataW.weights_mem_each (j := j) (t := f.type) (d := d) (by simp [hf]) hd n hn)
theorem fit_elem {H : Type} {t e : TypeId} {el sp : List (DataW H)} (ht : Tryd.prog.underlying t = some (.slice e)) (h : Fit t (.slice el sp : DataW H)) {d : DataW H} (hd : d ∈ el) : Fit e d := fun n hn => h n (by
  simp only [DataW.weights, ht]
  exact List.mem_cons_of_mem _ (List.mem_append_left _ (weights_mem_all hd hn)))
theorem fit_len {H : Type} {t e : TypeId} {el sp : List (DataW H)} (ht : Tryd.prog.underlying t = some (.slice e)) (h : Fit t (.slice el sp : DataW H)) : el.length * Tryd.prog.bytesOf e ≤ reachBytes := by
  have h1 := h ((el.length + sp.length) * Tryd.prog.bytesOf e) (by simp only [DataW.weights, ht]; exact List.mem_cons_self ..)
  exact Nat.le_trans (Nat.mul_le_mul_right _ (Nat.le_add_right _ _)) h1
theorem fit_arg {H : Type} {ts : List TypeId} {ds : List (DataW H)} (h : (DataW.weightsEach Tryd.prog ts ds).all (· ≤ reachBytes) = true) (j : Nat) {t : TypeId} {d : DataW H} (ht : ts[j]? = some t) (hd : ds[j]? = some d) : Fit t d := fun n hn => by
  simpa using List.all_eq_true.1 h n (DataW.weights_mem_each ht hd n hn)
theorem fit_str {H : Type} {t : TypeId} {l : List UInt8} (h : Fit t (.lit (.string l) : DataW H)) : l.length ≤ reachBytes := h _ (by simp [DataW.weights])

theorem add_off (a : Addr) (j : Nat) (hj : 0 < j) : a.add j = ⟨a.block, a.off + j, none⟩ := by
  unfold Addr.add
  simp [Nat.ne_of_gt hj]
theorem list_of {α : Type} (R : Nat → α → Prop) (n : Nat) (h : ∀ i, i < n → ∃ x, R i x) : ∃ l : List α, l.length = n ∧ ∀ j (hj : j < l.length), R j l[j] := by
  induction n with
  | zero => exact ⟨[], rfl, fun j hj => by simp at hj⟩
  | succ n ih =>
    obtain ⟨l, hl, hr⟩ := ih (fun i hi => h i (by omega))
    obtain ⟨x, hx⟩ := h n (by omega)
    refine ⟨l ++ [x], by simp [hl], fun j hj => ?_⟩
    by_cases e : j < l.length
    · rw [List.getElem_append_left e]
      exact hr j e
    · have e' : j = l.length := by simp at hj; omega
      subst e'
      simp
      rw [hl]
      exact hx

set_option maxRecDepth 100000 in
theorem open_dot {n : Nat} {c0 c1 : Value} {y : DataW H × List MemPlace} (h : DataW.trod enc Tryd.prog w base spare held n 32 [c0, c1] = some y) (hw : Fit 32 y.1) :
    ∃ p q : Int, c0 = .int .i64 p ∧ c1 = .int .i64 q ∧ In64 p ∧ In64 q := by
  obtain ⟨xs, m, _, hx, _, hlen, hg⟩ := DataW.trod_struct Tryd.underlying32 h
  match xs, hlen with
  | [y0, y1], _ =>
    have g0 : DataW.trod enc Tryd.prog w base spare held m 3 (List.take (Tryd.prog.cellsOf 3) (List.drop 0 [c0, c1])) = some y0 := hg 0 _ rfl
    rw [cInt] at g0
    change DataW.trod enc Tryd.prog w base spare held m 3 [c0] = some y0 at g0
    have g1 : DataW.trod enc Tryd.prog w base spare held m 3 (List.take (Tryd.prog.cellsOf 3) (List.drop 1 [c0, c1])) = some y1 := hg 1 _ rfl
    rw [cInt] at g1
    change DataW.trod enc Tryd.prog w base spare held m 3 [c1] = some y1 at g1
    have hy : y.1 = .agg [y0.1, y1.1] := by rw [hx]; rfl
    rw [hy] at hw
    have w0 := fit_struct Tryd.underlying32 hw 0 _ y0.1 rfl rfl
    have w1 := fit_struct Tryd.underlying32 hw 1 _ y1.1 rfl rfl
    obtain ⟨a0, h0, _, z0⟩ := DataW.trod_int Tryd.underlying3 g0
    obtain ⟨a1, h1, _, z1⟩ := DataW.trod_int Tryd.underlying3 g1
    simp at h0 h1
    exact ⟨a0, a1, h0, h1, lit64 z0, lit64 z1⟩

set_option maxRecDepth 100000 in
theorem open_dots {n : Nat} {v : Value} {y : DataW H × List MemPlace} (h : DataW.trod enc Tryd.prog w base spare held n 42 [v] = some y) (hw : Fit 42 y.1) :
    ∃ (A : Option Addr) (c : Nat) (l : List (Int × Int)), v = .slice A l.length c ∧ DotsAt w A l ∧ DotsOk l ∧ l.length * 16 ≤ 140737488351232 := by
  rcases open_slice Tryd.underlying42 h with ⟨hc, _⟩ | ⟨a, len, cap, m, n, D, Pl, hc, _, hlc, hcm, hm, hx, hi⟩
  · simp at hc
    exact ⟨none, 0, [], hc, fun j hj => by simp at hj, fun x hx => by simp at hx, by simp⟩
  · simp at hc
    have hy : y.1 = .slice ((List.range len).map D) ((List.range (m - len)).map fun j => D (len + j)) := by rw [hx]
    rw [hy] at hw
    have hln := fit_len Tryd.underlying42 hw
    rw [bDot, List.length_map, List.length_range] at hln
    unfold reachBytes at hln
    have key : ∀ i, i < len → ∃ x : (Int × Int), (w.cell? (a.add (i * 2)) = some (.int .i64 x.1) ∧ w.cell? ⟨(a.add (i * 2)).block, (a.add (i * 2)).off + 1, none⟩ = some (.int .i64 x.2)) ∧ (In64 x.1 ∧ In64 x.2) := by
      intro i hin
      obtain ⟨cs, hcs, ht⟩ := hi i (by rw [hm]; split <;> omega)
      rw [cDot] at hcs
      obtain ⟨_, hl, hat⟩ := World.cells?_some hcs
      have hwi := fit_elem Tryd.underlying42 hw (d := D i) (List.mem_map.2 ⟨i, List.mem_range.2 hin, rfl⟩)
      match cs, hl with
      | [c0, c1], _ =>
        obtain ⟨p, q, rfl, rfl, hp, hq⟩ := open_dot ht hwi
        have k0 := hat 0 (by omega)
        have k1 := hat 1 (by omega)
        rw [Addr.add_zero'] at k0
        rw [add_off _ 1 (by omega)] at k1
        exact ⟨(p, q), ⟨k0, k1⟩, hp, hq⟩
    obtain ⟨l, hl, hat⟩ := list_of (fun i (x : (Int × Int)) => (w.cell? (a.add (i * 2)) = some (.int .i64 x.1) ∧ w.cell? ⟨(a.add (i * 2)).block, (a.add (i * 2)).off + 1, none⟩ = some (.int .i64 x.2)) ∧ (In64 x.1 ∧ In64 x.2)) len key
    refine ⟨some a, cap, l, by rw [hc, hl], fun j hj => ⟨a, rfl, (hat j hj).1⟩, fun x hx => ?_, by rw [hl]; exact hln⟩
    · obtain ⟨j, hj, rfl⟩ := List.getElem_of_mem hx
      exact (hat j hj).2

/-- What is read of a version, before its size is asked. -/
structure VerR.Read (x : VerR) : Prop where
  dp : In64 x.dp
  dc : In64 x.dc
  past : DotsOk x.past
  len : x.past.length * 16 ≤ 140737488351232
  data : x.data.size ≤ 140737488351232
def VersRead (L : List VerR) : Prop := ∀ x ∈ L, x.Read

set_option maxRecDepth 100000 in
theorem open_ver {n : Nat} {c0 c1 c2 c3 c4 : Value} {y : DataW H × List MemPlace} (h : DataW.trod enc Tryd.prog w base spare held n 54 [c0, c1, c2, c3, c4] = some y) (hw : Fit 54 y.1) :
    ∃ x : VerR, [c0, c1, c2, c3, c4] = x.cells.toList ∧ DotsAt w x.A x.past ∧ x.Read := by
  obtain ⟨xs, m, _, hx, _, hlen, hg⟩ := DataW.trod_struct Tryd.underlying54 h
  match xs, hlen with
  | [y0, y1, y2, y3], _ =>
    have g0 : DataW.trod enc Tryd.prog w base spare held m 32 (List.take (Tryd.prog.cellsOf 32) (List.drop 0 [c0, c1, c2, c3, c4])) = some y0 := hg 0 _ rfl
    rw [cDot] at g0
    change DataW.trod enc Tryd.prog w base spare held m 32 [c0, c1] = some y0 at g0
    have g1 : DataW.trod enc Tryd.prog w base spare held m 42 (List.take (Tryd.prog.cellsOf 42) (List.drop 2 [c0, c1, c2, c3, c4])) = some y1 := hg 1 _ rfl
    rw [cDots] at g1
    change DataW.trod enc Tryd.prog w base spare held m 42 [c2] = some y1 at g1
    have g2 : DataW.trod enc Tryd.prog w base spare held m 4 (List.take (Tryd.prog.cellsOf 4) (List.drop 3 [c0, c1, c2, c3, c4])) = some y2 := hg 2 _ rfl
    rw [cBool] at g2
    change DataW.trod enc Tryd.prog w base spare held m 4 [c3] = some y2 at g2
    have g3 : DataW.trod enc Tryd.prog w base spare held m 9 (List.take (Tryd.prog.cellsOf 9) (List.drop 4 [c0, c1, c2, c3, c4])) = some y3 := hg 3 _ rfl
    rw [cStr] at g3
    change DataW.trod enc Tryd.prog w base spare held m 9 [c4] = some y3 at g3
    have hy : y.1 = .agg [y0.1, y1.1, y2.1, y3.1] := by rw [hx]; rfl
    rw [hy] at hw
    have w0 := fit_struct Tryd.underlying54 hw 0 _ y0.1 rfl rfl
    have w1 := fit_struct Tryd.underlying54 hw 1 _ y1.1 rfl rfl
    have w2 := fit_struct Tryd.underlying54 hw 2 _ y2.1 rfl rfl
    have w3 := fit_struct Tryd.underlying54 hw 3 _ y3.1 rfl rfl
    obtain ⟨p, q, rfl, rfl, hp, hq⟩ := open_dot g0 w0
    obtain ⟨B, c, l, rfl, hl, hok, hlen⟩ := open_dots g1 w1
    obtain ⟨b, hb, _⟩ := DataW.trod_bool Tryd.underlying4 g2
    obtain ⟨s, hs, hsy, _⟩ := DataW.trod_string Tryd.underlying9 g3
    have hsz : s.size ≤ 140737488351232 := by
      rw [hsy] at w3
      have := fit_str w3
      simpa [reachBytes] using this
    simp at hb hs
    subst hb hs
    exact ⟨⟨p, q, B, c, l, b, s⟩, rfl, hl, hp, hq, hok, hlen, hsz⟩

set_option maxRecDepth 100000 in
theorem open_vers {n : Nat} {v : Value} {y : DataW H × List MemPlace} (h : DataW.trod enc Tryd.prog w base spare held n 48 [v] = some y) (hw : Fit 48 y.1) :
    ∃ (A : Option Addr) (c : Nat) (l : List VerR), v = .slice A l.length c ∧ VersAt w A l ∧ VersRead l ∧ l.length * 64 ≤ 140737488351232 := by
  rcases open_slice Tryd.underlying48 h with ⟨hc, _⟩ | ⟨a, len, cap, m, n, D, Pl, hc, _, hlc, hcm, hm, hx, hi⟩
  · simp at hc
    exact ⟨none, 0, [], hc, fun j hj => by simp at hj, fun x hx => by simp at hx, by simp⟩
  · simp at hc
    have hy : y.1 = .slice ((List.range len).map D) ((List.range (m - len)).map fun j => D (len + j)) := by rw [hx]
    rw [hy] at hw
    have hln := fit_len Tryd.underlying48 hw
    rw [bVersion, List.length_map, List.length_range] at hln
    unfold reachBytes at hln
    have key : ∀ i, i < len → ∃ x : VerR, (w.cell? (a.add (i * 5)) = some (.int .i64 x.dp) ∧ w.cell? ⟨(a.add (i * 5)).block, (a.add (i * 5)).off + 1, none⟩ = some (.int .i64 x.dc) ∧ w.cell? ⟨(a.add (i * 5)).block, (a.add (i * 5)).off + 2, none⟩ = some (.slice x.A x.past.length x.c) ∧ w.cell? ⟨(a.add (i * 5)).block, (a.add (i * 5)).off + 3, none⟩ = some (.bool x.dead) ∧ w.cell? ⟨(a.add (i * 5)).block, (a.add (i * 5)).off + 4, none⟩ = some (.string x.data) ∧ DotsAt w x.A x.past) ∧ x.Read := by
      intro i hin
      obtain ⟨cs, hcs, ht⟩ := hi i (by rw [hm]; split <;> omega)
      rw [cVersion] at hcs
      obtain ⟨_, hl, hat⟩ := World.cells?_some hcs
      have hwi := fit_elem Tryd.underlying48 hw (d := D i) (List.mem_map.2 ⟨i, List.mem_range.2 hin, rfl⟩)
      match cs, hl with
      | [c0, c1, c2, c3, c4], _ =>
        obtain ⟨x, hxc, hxp, hxr⟩ := open_ver ht hwi
        simp only [VerR.cells, List.cons.injEq, and_true] at hxc
        obtain ⟨rfl, rfl, rfl, rfl, rfl⟩ := hxc
        have k0 := hat 0 (by omega)
        have k1 := hat 1 (by omega)
        have k2 := hat 2 (by omega)
        have k3 := hat 3 (by omega)
        have k4 := hat 4 (by omega)
        rw [Addr.add_zero'] at k0
        rw [add_off _ 1 (by omega)] at k1
        rw [add_off _ 2 (by omega)] at k2
        rw [add_off _ 3 (by omega)] at k3
        rw [add_off _ 4 (by omega)] at k4
        exact ⟨x, ⟨k0, k1, k2, k3, k4, hxp⟩, hxr⟩
    obtain ⟨l, hl, hat⟩ := list_of (fun i (x : VerR) => (w.cell? (a.add (i * 5)) = some (.int .i64 x.dp) ∧ w.cell? ⟨(a.add (i * 5)).block, (a.add (i * 5)).off + 1, none⟩ = some (.int .i64 x.dc) ∧ w.cell? ⟨(a.add (i * 5)).block, (a.add (i * 5)).off + 2, none⟩ = some (.slice x.A x.past.length x.c) ∧ w.cell? ⟨(a.add (i * 5)).block, (a.add (i * 5)).off + 3, none⟩ = some (.bool x.dead) ∧ w.cell? ⟨(a.add (i * 5)).block, (a.add (i * 5)).off + 4, none⟩ = some (.string x.data) ∧ DotsAt w x.A x.past) ∧ x.Read) len key
    refine ⟨some a, cap, l, by rw [hc, hl], fun j hj => ⟨a, rfl, (hat j hj).1⟩, fun x hx => ?_, by rw [hl]; exact hln⟩
    · obtain ⟨j, hj, rfl⟩ := List.getElem_of_mem hx
      exact (hat j hj).2

set_option maxRecDepth 100000 in
theorem open_entry {n : Nat} {c0 c1 : Value} {y : DataW H × List MemPlace} (h : DataW.trod enc Tryd.prog w base spare held n 50 [c0, c1] = some y) (hw : Fit 50 y.1) :
    ∃ (s : ByteArray) (A : Option Addr) (c : Nat) (L : List VerR), c0 = .string s ∧ c1 = .slice A L.length c ∧ VersAt w A L ∧ VersRead L ∧ L.length * 64 ≤ 140737488351232 ∧ s.size ≤ 140737488351232 := by
  obtain ⟨xs, m, _, hx, _, hlen, hg⟩ := DataW.trod_struct Tryd.underlying50 h
  match xs, hlen with
  | [y0, y1], _ =>
    have g0 : DataW.trod enc Tryd.prog w base spare held m 9 (List.take (Tryd.prog.cellsOf 9) (List.drop 0 [c0, c1])) = some y0 := hg 0 _ rfl
    rw [cStr] at g0
    change DataW.trod enc Tryd.prog w base spare held m 9 [c0] = some y0 at g0
    have g1 : DataW.trod enc Tryd.prog w base spare held m 48 (List.take (Tryd.prog.cellsOf 48) (List.drop 1 [c0, c1])) = some y1 := hg 1 _ rfl
    rw [cVers] at g1
    change DataW.trod enc Tryd.prog w base spare held m 48 [c1] = some y1 at g1
    have hy : y.1 = .agg [y0.1, y1.1] := by rw [hx]; rfl
    rw [hy] at hw
    have w0 := fit_struct Tryd.underlying50 hw 0 _ y0.1 rfl rfl
    have w1 := fit_struct Tryd.underlying50 hw 1 _ y1.1 rfl rfl
    obtain ⟨s, hs, hsy, _⟩ := DataW.trod_string Tryd.underlying9 g0
    have hsz : s.size ≤ 140737488351232 := by
      rw [hsy] at w0
      have := fit_str w0
      simpa [reachBytes] using this
    obtain ⟨B, c, l, rfl, hl, hok, hlen⟩ := open_vers g1 w1
    simp at hs
    exact ⟨s, B, c, l, hs, rfl, hl, hok, hlen, hsz⟩

theorem lit8 {a : Int} (h : (Lit.int .u8 a).wf = true) : ∃ c : UInt8, a = (c.toNat : Int) := by
  simp [Lit.wf, IntKind.min, IntKind.max, IntKind.signed, IntKind.bits] at h
  refine ⟨UInt8.ofNat a.toNat, ?_⟩
  rw [UInt8.toNat_ofNat']
  omega
set_option maxRecDepth 100000 in
theorem open_digest {n : Nat} {cs : List Value} {y : DataW H × List MemPlace} (h : DataW.trod enc Tryd.prog w base spare held n 47 cs = some y) :
    ∃ l : List UInt8, l.length = 32 ∧ cs = byteV l := by
  obtain ⟨xs, m, _, _, hlen, hxl, hg⟩ := DataW.trod_array Tryd.underlying47 h
  rw [cDigest] at hlen
  have key : ∀ i, i < 32 → ∃ c : UInt8, cs[i]? = some (.int .u8 (c.toNat : Int)) := by
    intro i hi
    have g := hg i hi
    rw [cU8, Nat.mul_one] at g
    have h1 : (cs.drop i).take 1 = [cs[i]'(by omega)] := by
      rw [List.drop_eq_getElem_cons (by omega)]
      rfl
    rw [h1, List.getElem?_eq_getElem (by omega)] at g
    obtain ⟨a, h2, _, w2⟩ := DataW.trod_int Tryd.underlying5 g
    simp at h2
    obtain ⟨c, rfl⟩ := lit8 w2
    exact ⟨c, by rw [List.getElem?_eq_getElem (by omega), h2]⟩
  obtain ⟨l, hl, hat⟩ := list_of (fun i (c : UInt8) => cs[i]? = some (.int .u8 (c.toNat : Int))) 32 key
  refine ⟨l, hl, ?_⟩
  apply List.ext_getElem
  · rw [byteV_length, hl, hlen]
  · intro i h1 h2
    have := hat i (by omega)
    rw [List.getElem?_eq_getElem h1] at this
    simp [byteV]
    exact Option.some.inj this

theorem okWide_array' {P : Program} {w : World} {r : Reach} {b : Nat} {t : TypeId} {v : Value} {n : Nat} {e : TypeId} (ht : P.underlying t = some (.array n e)) (h : Value.okWide P w r b t v) : ∃ cs, v = .agg cs ∧ cs.size = P.cellsOf t := by
  simp only [Value.okWide, ht] at h
  obtain ⟨cs, h1, h2, _⟩ := h
  exact ⟨cs, h1, h2⟩
set_option maxRecDepth 100000 in
theorem arg_dots {r : Reach} {b0 : Nat} {v : Value} {d : DataW H} {p : List MemPlace} (hv : Value.okWide Tryd.prog w r b0 42 v) (h : DataW.Trod enc Tryd.prog w base spare held 42 v d p) (hw : Fit 42 d) :
    ∃ (A : Option Addr) (c : Nat) (l : List (Int × Int)), v = .slice A l.length c ∧ DotsAt w A l ∧ DotsOk l ∧ l.length * 16 ≤ 140737488351232 := by
  obtain ⟨A0, n0, c0, rfl⟩ := okWide_slice Tryd.underlying42 hv
  obtain ⟨fuel, hf⟩ := h
  exact open_dots hf hw
set_option maxRecDepth 100000 in
theorem arg_digest {r : Reach} {b0 : Nat} {v : Value} {d : DataW H} {p : List MemPlace} (hv : Value.okWide Tryd.prog w r b0 47 v) (h : DataW.Trod enc Tryd.prog w base spare held 47 v d p) :
    ∃ l : List UInt8, l.length = 32 ∧ v = .agg (byteV l).toArray := by
  obtain ⟨cs, rfl, hsz⟩ := okWide_array' Tryd.underlying47 hv
  obtain ⟨fuel, hf⟩ := h
  obtain ⟨l, hl, hc⟩ := open_digest hf
  exact ⟨l, hl, by rw [← hc]; rfl⟩
set_option maxRecDepth 100000 in
theorem arg_entry {r : Reach} {b0 : Nat} {v : Value} {d : DataW H} {p : List MemPlace} (hv : Value.okWide Tryd.prog w r b0 50 v) (h : DataW.Trod enc Tryd.prog w base spare held 50 v d p) (hw : Fit 50 d) :
    ∃ (s : ByteArray) (A : Option Addr) (c : Nat) (L : List VerR), v = .agg #[.string s, .slice A L.length c] ∧ VersAt w A L ∧ VersRead L ∧ L.length * 64 ≤ 140737488351232 ∧ s.size ≤ 140737488351232 := by
  obtain ⟨cs, rfl, hsz⟩ := okWide_struct Tryd.underlying50 hv
  obtain ⟨l⟩ := cs
  match l, hsz.trans cEntry with
  | [c0, c1], _ =>
    obtain ⟨fuel, hf⟩ := h
    obtain ⟨s, A, c, L, rfl, rfl, h1, h2, h3, h4⟩ := open_entry hf hw
    exact ⟨s, A, c, L, rfl, h1, h2, h3, h4⟩
end
end Go.Proofs.YtmeneoanmfpecaaDoor
