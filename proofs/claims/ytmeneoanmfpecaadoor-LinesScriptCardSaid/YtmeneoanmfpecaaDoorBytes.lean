/- Rows of bytes, and the strings that are made of them. -/
import Derived.Lib.ConvBytes
import Derived.Deep.RegionLaw
import Derived.RangeFuncRecord
import Derived.OwnWalk
import Derived.WalkKit
import Derived.Lib.Hide
import Derived.Test.YtmeneoanmfpecaaDoorProg
namespace Go.Proofs.YtmeneoanmfpecaaDoor
set_option linter.unusedVariables false
open Go.RowKit

theorem cell_below {w w' : World} {a : Addr} {u : Value} (hb : Below w.heap.size w w') (h : w.cell? a = some u) : w'.cell? a = some u := by
  have hlt : a.block < w.heap.size := by
    rcases Nat.lt_or_ge a.block w.heap.size with h1 | h1
    · exact h1
    · simp [World.cell?, Array.getElem?_eq_none h1] at h
  unfold World.cell? at h ⊢
  rw [hb.block _ hlt]
  exact h

theorem own_keep {w w1 : World} {base : Nat} {e : TypeId} {size n : Nat} {v : Value} {xs : List Value} (h : w.ownsRow base e size v n xs) (hm : ∀ k, v.ownBlock = some k → w1.heap[k]? = w.heap[k]?) : w1.ownsRow base e size v n xs := by
  refine ⟨h.1, ?_⟩
  rcases h.2 with h2 | ⟨g, cap, cur, rfl, h3, h4, h5⟩
  · exact .inl h2
  · exact .inr ⟨g, cap, cur, rfl, h3, by rw [hm g rfl]; exact h4, h5⟩
theorem own_lt' {w : World} {base : Nat} {e : TypeId} {size n : Nat} {v : Value} {xs : List Value} (h : w.ownsRow base e size v n xs) (k : Nat) (hk : v.ownBlock = some k) : k < w.heap.size := (h.lt k hk).2
theorem own_ge' {w : World} {base : Nat} {e : TypeId} {size n : Nat} {v : Value} {xs : List Value} (h : w.ownsRow base e size v n xs) (k : Nat) (hk : v.ownBlock = some k) : base ≤ k := (h.lt k hk).1
theorem own_shape {w : World} {base : Nat} {e : TypeId} {size n : Nat} {v : Value} {xs : List Value} (h : w.ownsRow base e size v n xs) : ∃ A c, v = .slice A n c := by
  rcases h.2 with ⟨rfl, rfl⟩ | ⟨g, cap, cur, rfl, _⟩
  · exact ⟨none, 0, rfl⟩
  · exact ⟨_, _, rfl⟩
theorem addr_add (g j : Nat) : (⟨g, 0, none⟩ : Addr).add j = ⟨g, j, none⟩ := by
  unfold Addr.add
  by_cases h : j = 0
  · subst h; rfl
  · simp [h]
theorem cells_new (w : World) (xs : List Value) (t : TypeId) (j : Nat) (u : Value) (h : xs[j]? = some u) : (w.alloc (.cells xs.toArray t)).cell? ((⟨w.heap.size, 0, none⟩ : Addr).add j) = some u := by
  rw [addr_add]
  have hn := World.alloc_heap_new w (.cells xs.toArray t)
  unfold World.cell?
  rw [hn]
  simpa using h

/-- Bytes, as cells. -/
def byteV (l : List UInt8) : List Value := l.map fun b => .int .u8 (b.toNat : Int)
theorem byteV_length (l : List UInt8) : (byteV l).length = l.length := by simp [byteV]
theorem byteV_append (a b : List UInt8) : byteV (a ++ b) = byteV a ++ byteV b := by simp [byteV]
theorem byteV_one (l : List UInt8) : ∀ u ∈ byteV l, u.oneCell' = true := by
  intro u hu
  simp only [byteV, List.mem_map] at hu
  obtain ⟨b, _, rfl⟩ := hu
  rfl

theorem bytes_string {w : World} {A : Option Addr} {cap : Nat} (l : List UInt8) (h : ∀ ad, A = some ad → ∀ j u, (byteV l)[j]? = some u → w.cell? (ad.add j) = some u) (hA : A = none → l = []) :
    (convert 76 9 (.slice A l.length cap)).run Tryd.prog w = .ok (.string ⟨l.toArray⟩) w := by
  cases A with
  | none =>
    have := hA rfl
    subst this
    rw [run_convert_bytes_string w _ _ 5 none _ cap Tryd.underlying76 Tryd.underlying5 Tryd.underlying9]
    rfl
  | some a =>
    refine run_convert_bytes_back w _ _ 5 a cap l Tryd.underlying76 Tryd.underlying5 Tryd.underlying9 (fun j hj => ?_)
    exact h a rfl j _ (by simp [byteV, List.getElem?_eq_getElem hj])

theorem own_string {w : World} {base : Nat} {v : Value} {l : List UInt8} (h : w.ownsRow base 5 1 v l.length (byteV l)) : (convert 76 9 v).run Tryd.prog w = .ok (.string ⟨l.toArray⟩) w := by
  obtain ⟨A, c, rfl⟩ := own_shape h
  refine bytes_string l (fun ad hA j u hj => ?_) (fun hA => ?_)
  · subst hA
    rcases h.2 with ⟨h1, _⟩ | ⟨g, cap, cur, h1, _⟩
    · cases h1
    · cases h1
      exact h.cells (g := g) rfl j u hj
  · subst hA
    rcases h.2 with ⟨_, h1⟩ | ⟨g, cap, cur, h1, _⟩
    · have : l.length = 0 := by simpa using h1
      exact List.length_eq_zero_iff.1 this
    · cases h1
end Go.Proofs.YtmeneoanmfpecaaDoor
