/- An event, by value, opened. -/
import Derived.Test.YtmeneoanmfpecaaDoorRows
import Derived.Test.YtmeneoanmfpecaaDoorEvent
import Derived.Lib.SmallJoins
import Derived.Deep.Slices
import Derived.Deep.Fields
import Derived.ChangeSame
namespace Go.Proofs.YtmeneoanmfpecaaDoor
set_option linter.unusedVariables false
set_option linter.unusedSimpArgs false
open Go.Joins Go.ChangeShapes Go.WideShapes Go.RowKit Go.Deep
section
variable {H : Type} {enc : TypeId × Value → H} {w : World} {base : Nat} {spare : Nat → Bool} {held : Bool}
theorem cInt : Tryd.prog.cellsOf 3 = 1 := by kernel_rfl
theorem cStr : Tryd.prog.cellsOf 9 = 1 := by kernel_rfl
theorem cErr : Tryd.prog.cellsOf 25 = 1 := by kernel_rfl
theorem cOp : Tryd.prog.cellsOf 30 = 8 := by kernel_rfl
theorem cDot : Tryd.prog.cellsOf 32 = 2 := by kernel_rfl
theorem cEvent : Tryd.prog.cellsOf 34 = 12 := by kernel_rfl
theorem lit64 {a : Int} (h : (Lit.int .i64 a).wf = true) : In64 a := by
  simp [Lit.wf, IntKind.min, IntKind.max, IntKind.signed, IntKind.bits] at h
  unfold In64
  omega

set_option maxRecDepth 100000 in
theorem open_op {n : Nat} {c0 c1 c2 c3 c4 c5 c6 c7 : Value} {y : DataW H × List MemPlace} (h : DataW.trod enc Tryd.prog w base spare held n 30 [c0, c1, c2, c3, c4, c5, c6, c7] = some y) :
    ∃ x : OpR, [c0, c1, c2, c3, c4, c5, c6, c7] = x.cells.toList := by
  obtain ⟨xs, m, _, hx, _, hlen, hg⟩ := DataW.trod_struct Tryd.underlying30 h
  match xs, hlen with
  | [y0, y1, y2, y3, y4, y5, y6, y7], _ =>
    have g0 : DataW.trod enc Tryd.prog w base spare held m 3 (List.take (Tryd.prog.cellsOf 3) (List.drop 0 [c0, c1, c2, c3, c4, c5, c6, c7])) = some y0 := hg 0 _ rfl
    rw [cInt] at g0
    change DataW.trod enc Tryd.prog w base spare held m 3 [c0] = some y0 at g0
    have g1 : DataW.trod enc Tryd.prog w base spare held m 3 (List.take (Tryd.prog.cellsOf 3) (List.drop 1 [c0, c1, c2, c3, c4, c5, c6, c7])) = some y1 := hg 1 _ rfl
    rw [cInt] at g1
    change DataW.trod enc Tryd.prog w base spare held m 3 [c1] = some y1 at g1
    have g2 : DataW.trod enc Tryd.prog w base spare held m 3 (List.take (Tryd.prog.cellsOf 3) (List.drop 2 [c0, c1, c2, c3, c4, c5, c6, c7])) = some y2 := hg 2 _ rfl
    rw [cInt] at g2
    change DataW.trod enc Tryd.prog w base spare held m 3 [c2] = some y2 at g2
    have g3 : DataW.trod enc Tryd.prog w base spare held m 3 (List.take (Tryd.prog.cellsOf 3) (List.drop 3 [c0, c1, c2, c3, c4, c5, c6, c7])) = some y3 := hg 3 _ rfl
    rw [cInt] at g3
    change DataW.trod enc Tryd.prog w base spare held m 3 [c3] = some y3 at g3
    have g4 : DataW.trod enc Tryd.prog w base spare held m 3 (List.take (Tryd.prog.cellsOf 3) (List.drop 4 [c0, c1, c2, c3, c4, c5, c6, c7])) = some y4 := hg 4 _ rfl
    rw [cInt] at g4
    change DataW.trod enc Tryd.prog w base spare held m 3 [c4] = some y4 at g4
    have g5 : DataW.trod enc Tryd.prog w base spare held m 3 (List.take (Tryd.prog.cellsOf 3) (List.drop 5 [c0, c1, c2, c3, c4, c5, c6, c7])) = some y5 := hg 5 _ rfl
    rw [cInt] at g5
    change DataW.trod enc Tryd.prog w base spare held m 3 [c5] = some y5 at g5
    have g6 : DataW.trod enc Tryd.prog w base spare held m 9 (List.take (Tryd.prog.cellsOf 9) (List.drop 6 [c0, c1, c2, c3, c4, c5, c6, c7])) = some y6 := hg 6 _ rfl
    rw [cStr] at g6
    change DataW.trod enc Tryd.prog w base spare held m 9 [c6] = some y6 at g6
    have g7 : DataW.trod enc Tryd.prog w base spare held m 9 (List.take (Tryd.prog.cellsOf 9) (List.drop 7 [c0, c1, c2, c3, c4, c5, c6, c7])) = some y7 := hg 7 _ rfl
    rw [cStr] at g7
    change DataW.trod enc Tryd.prog w base spare held m 9 [c7] = some y7 at g7
    obtain ⟨a0, h0, _, _⟩ := DataW.trod_int Tryd.underlying3 g0
    obtain ⟨a1, h1, _, _⟩ := DataW.trod_int Tryd.underlying3 g1
    obtain ⟨a2, h2, _, _⟩ := DataW.trod_int Tryd.underlying3 g2
    obtain ⟨a3, h3, _, _⟩ := DataW.trod_int Tryd.underlying3 g3
    obtain ⟨a4, h4, _, _⟩ := DataW.trod_int Tryd.underlying3 g4
    obtain ⟨a5, h5, _, _⟩ := DataW.trod_int Tryd.underlying3 g5
    obtain ⟨s6, h6, _, _⟩ := DataW.trod_string Tryd.underlying9 g6
    obtain ⟨s7, h7, _, _⟩ := DataW.trod_string Tryd.underlying9 g7
    simp at h0 h1 h2 h3 h4 h5 h6 h7
    subst h0 h1 h2 h3 h4 h5 h6 h7
    exact ⟨⟨a0, a1, a2, a3, a4, a5, s6, s7⟩, rfl⟩

set_option maxRecDepth 100000 in
theorem open_event {r : Reach} {b0 : Nat} {v : Value} {d : DataW H} {p : List MemPlace} (hv : Value.okWide Tryd.prog w r b0 34 v) (h : DataW.Trod enc Tryd.prog w base spare held 34 v d p) :
    ∃ x : EvR, v = .agg x.cells ∧ x.ok := by
  obtain ⟨cs, rfl, hsz⟩ := okWide_struct Tryd.underlying34 hv
  obtain ⟨l⟩ := cs
  match l, hsz.trans cEvent with
  | [c0, c1, c2, c3, c4, c5, c6, c7, c8, c9, c10, c11], _ =>
    obtain ⟨fuel, hf⟩ := h
    obtain ⟨xs, m, _, hx, _, hlen, hg⟩ := DataW.trod_struct Tryd.underlying34 hf
    match xs, hlen with
    | [y0, y1, y2, y3], _ =>
      have g0 : DataW.trod enc Tryd.prog w base spare held m 3 (List.take (Tryd.prog.cellsOf 3) (List.drop 0 [c0, c1, c2, c3, c4, c5, c6, c7, c8, c9, c10, c11])) = some y0 := hg 0 _ rfl
      rw [cInt] at g0
      change DataW.trod enc Tryd.prog w base spare held m 3 [c0] = some y0 at g0
      have g1 : DataW.trod enc Tryd.prog w base spare held m 30 (List.take (Tryd.prog.cellsOf 30) (List.drop 1 [c0, c1, c2, c3, c4, c5, c6, c7, c8, c9, c10, c11])) = some y1 := hg 1 _ rfl
      rw [cOp] at g1
      change DataW.trod enc Tryd.prog w base spare held m 30 [c1, c2, c3, c4, c5, c6, c7, c8] = some y1 at g1
      have g2 : DataW.trod enc Tryd.prog w base spare held m 25 (List.take (Tryd.prog.cellsOf 25) (List.drop 9 [c0, c1, c2, c3, c4, c5, c6, c7, c8, c9, c10, c11])) = some y2 := hg 2 _ rfl
      rw [cErr] at g2
      change DataW.trod enc Tryd.prog w base spare held m 25 [c9] = some y2 at g2
      have g3 : DataW.trod enc Tryd.prog w base spare held m 32 (List.take (Tryd.prog.cellsOf 32) (List.drop 10 [c0, c1, c2, c3, c4, c5, c6, c7, c8, c9, c10, c11])) = some y3 := hg 3 _ rfl
      rw [cDot] at g3
      change DataW.trod enc Tryd.prog w base spare held m 32 [c10, c11] = some y3 at g3
      obtain ⟨a0, h0, _, w0⟩ := DataW.trod_int Tryd.underlying3 g0
      obtain ⟨x, hxo⟩ := open_op g1
      obtain ⟨a9, h9, _, _⟩ := DataW.trod_int Tryd.underlying25 g2
      obtain ⟨zs, m2, _, _, _, hlz, hz⟩ := DataW.trod_struct Tryd.underlying32 g3
      match zs, hlz with
      | [z0, z1], _ =>
        have k0 : DataW.trod enc Tryd.prog w base spare held m2 3 (List.take (Tryd.prog.cellsOf 3) (List.drop 0 [c10, c11])) = some z0 := hz 0 _ rfl
        rw [cInt] at k0
        change DataW.trod enc Tryd.prog w base spare held m2 3 [c10] = some z0 at k0
        have k1 : DataW.trod enc Tryd.prog w base spare held m2 3 (List.take (Tryd.prog.cellsOf 3) (List.drop 1 [c10, c11])) = some z1 := hz 1 _ rfl
        rw [cInt] at k1
        change DataW.trod enc Tryd.prog w base spare held m2 3 [c11] = some z1 at k1
        obtain ⟨a10, h10, _, w10⟩ := DataW.trod_int Tryd.underlying3 k0
        obtain ⟨a11, h11, _, w11⟩ := DataW.trod_int Tryd.underlying3 k1
        simp at h0 h9 h10 h11
        subst h0 h9 h10 h11
        simp only [OpR.cells, List.cons.injEq, and_true] at hxo
        obtain ⟨rfl, rfl, rfl, rfl, rfl, rfl, rfl, rfl⟩ := hxo
        exact ⟨⟨a0, x, a9, a10, a11⟩, rfl, lit64 w0, lit64 w10, lit64 w11⟩
end
end Go.Proofs.YtmeneoanmfpecaaDoor
