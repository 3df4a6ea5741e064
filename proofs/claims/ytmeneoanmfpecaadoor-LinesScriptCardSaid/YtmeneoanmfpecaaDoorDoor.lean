/- The package-level tables that the laws read, and that they stay. -/
import Derived.Lib.LaidTab
import Derived.Below
import Derived.KernelRfl
import Derived.Test.YtmeneoanmfpecaaDoorShelf
namespace Go.Proofs.YtmeneoanmfpecaaDoor
open Go.RowKit

theorem tab_below {P : Program} {w w' : World} {n : String} {k : IntKind} {zs : List Int} (h : Lib.TabIs P w n k zs) (hb : Below w.heap.size w w') : Lib.TabIs P w' n k zs := by
  unfold Lib.TabIs World.var? at h ⊢
  cases hg : P.globalNamed n with
  | none => rw [hg] at h; cases h
  | some g =>
    rw [hg] at h
    simp only [Option.bind_some] at h ⊢
    have hlt : g < w.heap.size := by
      rcases Nat.lt_or_ge g w.heap.size with h1 | h1
      · exact h1
      · rw [Array.getElem?_eq_none h1] at h
        cases h
    rw [hb.block g hlt]
    exact h

def fieldsTab : List Int := [48, 16, 2, 2, 3, 3, 3, 15, 2, 6, 0, 0, 0]
/-- Each kind's own fields. -/
def Flds (w : World) : Prop := Lib.TabIs Tryd.prog w "hearsay/ops.fields" .i64 fieldsTab
theorem Flds.below {w w' : World} (h : Flds w) (hb : Below w.heap.size w w') : Flds w' := tab_below h hb

structure Door (w : World) : Prop where
  flds : Flds w
  pow : Lib.TabIs Tryd.prog w "internal/strconv.uint64pow10" .u64 Lib.pow10Tab
  spc : Lib.TabIs Tryd.prog w "strings.asciiSpace" .u8 Lib.asciiSpaceTab

theorem Door.below {w w' : World} (h : Door w) (hb : Below w.heap.size w w') : Door w' := ⟨h.flds.below hb, tab_below h.pow hb, tab_below h.spc hb⟩

theorem gFields : Tryd.prog.globalNamed "hearsay/ops.fields" = some 0 := by kernel_rfl
theorem Flds.cell {w : World} (h : Flds w) (i : Nat) (hi : i < 13) : w.cell? ⟨0, i, none⟩ = some (.int .i64 (fieldsTab.getD i 0)) := by
  have := Lib.TabIs.cell h gFields i (by simpa [fieldsTab] using hi)
  exact this
end Go.Proofs.YtmeneoanmfpecaaDoor
