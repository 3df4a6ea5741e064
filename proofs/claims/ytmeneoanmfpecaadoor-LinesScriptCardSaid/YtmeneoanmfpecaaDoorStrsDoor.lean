/- Arguments that are lists of strings: opened. -/
import Derived.Test.YtmeneoanmfpecaaDoorReadDoor
import Derived.Test.YtmeneoanmfpecaaDoorLinesScript
namespace Go.Proofs.YtmeneoanmfpecaaDoor
set_option linter.unusedVariables false
set_option linter.unusedSimpArgs false
open Go.Joins Go.ChangeShapes Go.WideShapes Go.RowKit Go.Deep
section
variable {H : Type} {enc : TypeId × Value → H} {w : World} {base : Nat} {spare : Nat → Bool} {held : Bool}
set_option maxRecDepth 100000 in
theorem arg_strs {r : Reach} {b0 : Nat} {v : Value} {d : DataW H} {p : List MemPlace} (hv : Value.okWide Tryd.prog w r b0 66 v) (h : DataW.Trod enc Tryd.prog w base spare held 66 v d p) :
    ∃ (A : Option Addr) (c : Nat) (l : List ByteArray), v = .slice A l.length c ∧ StrsAt w A l := by
  obtain ⟨A0, n0, c0, rfl⟩ := okWide_slice Tryd.underlying66 hv
  obtain ⟨fuel, hf⟩ := h
  rcases open_slice Tryd.underlying66 hf with ⟨hc, _⟩ | ⟨a, len, cap, m, n, D, Pl, hc, _, hlc, hcm, hm, hx, hi⟩
  · have hc : Value.slice A0 n0 c0 = .slice none 0 0 := by simpa [Value.cells] using hc
    exact ⟨none, 0, [], hc, fun j hj => by simp at hj⟩
  · have hc : Value.slice A0 n0 c0 = .slice (some a) len cap := by simpa [Value.cells] using hc
    have key : ∀ i, i < len → ∃ x : ByteArray, w.cell? (a.add i) = some (.string x) := by
      intro i hin
      obtain ⟨cs, hcs, ht⟩ := hi i (by rw [hm]; split <;> omega)
      rw [cStr, Nat.mul_one] at hcs
      obtain ⟨_, hl, hat⟩ := World.cells?_some hcs
      match cs, hl with
      | [c0], _ =>
        obtain ⟨s, hs, _, _⟩ := DataW.trod_string Tryd.underlying9 ht
        simp at hs
        subst hs
        have k0 := hat 0 (by omega)
        rw [Addr.add_zero'] at k0
        exact ⟨s, k0⟩
    obtain ⟨l, hl, hat⟩ := list_of (fun i (x : ByteArray) => w.cell? (a.add i) = some (.string x)) len key
    exact ⟨some a, cap, l, by rw [hc, hl], fun j hj => ⟨a, rfl, hat j hj⟩⟩
end
end Go.Proofs.YtmeneoanmfpecaaDoor
