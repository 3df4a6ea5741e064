/- package trace: an event off bytes, its operation as bytes. package trace: an event with its operation. Rows of structs in slices: events, and events with their operations as bytes. A call of a Go function at a step of a region that draws its order. package trace: Read. -/
import Derived.Test.YtjmfdacnaodfdaaDoorK6
import Derived.Deep.RegionLaw
import Derived.Deep.RegionWith
import Derived.Deep.AppendLies
import Derived.WalkKit
import Derived.Shelf.Abstract
import Derived.RangeFuncLeaves
namespace Go.Proofs.YtjmfdacnaodfdaaDoor
set_option linter.unusedVariables false
set_option linter.unusedSimpArgs false
open Go.RowKit

/-- A row of cells in a block of its own. -/
def RowBox (w : World) (b : Nat) (cs : Array Value) (T : TypeId) : Prop := w.heap[b]? = some (.cells cs T (0, 0))
theorem RowBox.cell {w : World} {b : Nat} {cs : Array Value} {T : TypeId} (h : RowBox w b cs T) (i : Nat) : w.cell? ⟨b, i, none⟩ = cs[i]? := Lib.cell_of_heap h i
theorem RowBox.frozen {w : World} {b : Nat} {cs : Array Value} {T : TypeId} (h : RowBox w b cs T) (i : Nat) : w.frozen? ⟨b, i, none⟩ = false := Lib.frozen_of_heap h i
theorem RowBox.lt {w : World} {b : Nat} {cs : Array Value} {T : TypeId} (h : RowBox w b cs T) : b < w.heap.size := by
  rcases Nat.lt_or_ge b w.heap.size with h' | h'
  · exact h'
  · unfold RowBox at h
    simp [Array.getElem?_eq_none h'] at h
theorem RowBox.of_block {w w' : World} {b : Nat} {cs : Array Value} {T : TypeId} (h : RowBox w b cs T) (hb : w'.heap[b]? = w.heap[b]?) : RowBox w' b cs T := by
  unfold RowBox at h ⊢
  rw [hb]
  exact h
theorem RowBox.below {w w' : World} {b : Nat} {cs : Array Value} {T : TypeId} (h : RowBox w b cs T) (hb : Below w.heap.size w w') : RowBox w' b cs T := h.of_block (hb.block b h.lt)
theorem RowBox.keptBut {w w' : World} {b c : Nat} {cs : Array Value} {T : TypeId} (h : RowBox w c cs T) (hk : KeptBut b w w') (hne : c ≠ b) : RowBox w' c cs T := h.of_block (hk.block c h.lt hne)
theorem RowBox.set {w : World} {b : Nat} {cs cs' : Array Value} {T : TypeId} (h : RowBox w b cs T) (i : Nat) (v : Value) (hc : cs.setIfInBounds i v = cs') : RowBox (w.setCell ⟨b, i, none⟩ v) b cs' T := by
  unfold RowBox
  rw [Go.Joins.block_setCell h, hc]
theorem RowBox.set_ne {w : World} {b : Nat} {cs : Array Value} {T : TypeId} (h : RowBox w b cs T) {p : Addr} (hp : b ≠ p.block) (v : Value) : RowBox (w.setCell p v) b cs T := h.of_block (heap_set_ne hp)
/-- A row of 12 laid over another one's box. -/
def put12 (w : World) (g : Nat) (v0 v1 v2 v3 v4 v5 v6 v7 v8 v9 v10 v11 : Value) : World := ((((((((((((w.setCell ⟨g, 0, none⟩ v0).setCell ⟨g, 1, none⟩ v1).setCell ⟨g, 2, none⟩ v2).setCell ⟨g, 3, none⟩ v3).setCell ⟨g, 4, none⟩ v4).setCell ⟨g, 5, none⟩ v5).setCell ⟨g, 6, none⟩ v6).setCell ⟨g, 7, none⟩ v7).setCell ⟨g, 8, none⟩ v8).setCell ⟨g, 9, none⟩ v9).setCell ⟨g, 10, none⟩ v10).setCell ⟨g, 11, none⟩ v11)
theorem put12_box {w : World} {g : Nat} {T : TypeId} {z0 z1 z2 z3 z4 z5 z6 z7 z8 z9 z10 z11 : Value} (h : RowBox w g #[z0, z1, z2, z3, z4, z5, z6, z7, z8, z9, z10, z11] T) (v0 v1 v2 v3 v4 v5 v6 v7 v8 v9 v10 v11 : Value) : RowBox (put12 w g v0 v1 v2 v3 v4 v5 v6 v7 v8 v9 v10 v11) g #[v0, v1, v2, v3, v4, v5, v6, v7, v8, v9, v10, v11] T := by
  unfold put12
  have h0 := h.set (cs' := #[v0, z1, z2, z3, z4, z5, z6, z7, z8, z9, z10, z11]) 0 v0 rfl
  have h1 := h0.set (cs' := #[v0, v1, z2, z3, z4, z5, z6, z7, z8, z9, z10, z11]) 1 v1 rfl
  have h2 := h1.set (cs' := #[v0, v1, v2, z3, z4, z5, z6, z7, z8, z9, z10, z11]) 2 v2 rfl
  have h3 := h2.set (cs' := #[v0, v1, v2, v3, z4, z5, z6, z7, z8, z9, z10, z11]) 3 v3 rfl
  have h4 := h3.set (cs' := #[v0, v1, v2, v3, v4, z5, z6, z7, z8, z9, z10, z11]) 4 v4 rfl
  have h5 := h4.set (cs' := #[v0, v1, v2, v3, v4, v5, z6, z7, z8, z9, z10, z11]) 5 v5 rfl
  have h6 := h5.set (cs' := #[v0, v1, v2, v3, v4, v5, v6, z7, z8, z9, z10, z11]) 6 v6 rfl
  have h7 := h6.set (cs' := #[v0, v1, v2, v3, v4, v5, v6, v7, z8, z9, z10, z11]) 7 v7 rfl
  have h8 := h7.set (cs' := #[v0, v1, v2, v3, v4, v5, v6, v7, v8, z9, z10, z11]) 8 v8 rfl
  have h9 := h8.set (cs' := #[v0, v1, v2, v3, v4, v5, v6, v7, v8, v9, z10, z11]) 9 v9 rfl
  have h10 := h9.set (cs' := #[v0, v1, v2, v3, v4, v5, v6, v7, v8, v9, v10, z11]) 10 v10 rfl
  have h11 := h10.set (cs' := #[v0, v1, v2, v3, v4, v5, v6, v7, v8, v9, v10, v11]) 11 v11 rfl
  exact h11
theorem put12_heap {w : World} {g i : Nat} (v0 v1 v2 v3 v4 v5 v6 v7 v8 v9 v10 v11 : Value) (h : i ≠ g) : (put12 w g v0 v1 v2 v3 v4 v5 v6 v7 v8 v9 v10 v11).heap[i]? = w.heap[i]? := by
  unfold put12
  simp only [heap_set_ne (p := ⟨g, _, none⟩) h]
theorem put12_size {w : World} {g : Nat} (v0 v1 v2 v3 v4 v5 v6 v7 v8 v9 v10 v11 : Value) : (put12 w g v0 v1 v2 v3 v4 v5 v6 v7 v8 v9 v10 v11).heap.size = w.heap.size := by
  unfold put12
  simp
theorem put12_below {B : Nat} {w0 w : World} {g : Nat} (h : Below B w0 w) (hg : B ≤ g) (v0 v1 v2 v3 v4 v5 v6 v7 v8 v9 v10 v11 : Value) : Below B w0 (put12 w g v0 v1 v2 v3 v4 v5 v6 v7 v8 v9 v10 v11) := by
  unfold put12
  exact (((((((((((h.setCell (p := ⟨g, 0, none⟩) hg v0).setCell (p := ⟨g, 1, none⟩) hg v1).setCell (p := ⟨g, 2, none⟩) hg v2).setCell (p := ⟨g, 3, none⟩) hg v3).setCell (p := ⟨g, 4, none⟩) hg v4).setCell (p := ⟨g, 5, none⟩) hg v5).setCell (p := ⟨g, 6, none⟩) hg v6).setCell (p := ⟨g, 7, none⟩) hg v7).setCell (p := ⟨g, 8, none⟩) hg v8).setCell (p := ⟨g, 9, none⟩) hg v9).setCell (p := ⟨g, 10, none⟩) hg v10).setCell (p := ⟨g, 11, none⟩) hg v11
theorem put12_kept {b : Nat} {w0 w : World} {g : Nat} (h : KeptBut b w0 w) (hg : w0.heap.size ≤ g) (v0 v1 v2 v3 v4 v5 v6 v7 v8 v9 v10 v11 : Value) : KeptBut b w0 (put12 w g v0 v1 v2 v3 v4 v5 v6 v7 v8 v9 v10 v11) := by
  unfold put12
  exact (((((((((((h.set_new (p := ⟨g, 0, none⟩) hg v0).set_new (p := ⟨g, 1, none⟩) hg v1).set_new (p := ⟨g, 2, none⟩) hg v2).set_new (p := ⟨g, 3, none⟩) hg v3).set_new (p := ⟨g, 4, none⟩) hg v4).set_new (p := ⟨g, 5, none⟩) hg v5).set_new (p := ⟨g, 6, none⟩) hg v6).set_new (p := ⟨g, 7, none⟩) hg v7).set_new (p := ⟨g, 8, none⟩) hg v8).set_new (p := ⟨g, 9, none⟩) hg v9).set_new (p := ⟨g, 10, none⟩) hg v10).set_new (p := ⟨g, 11, none⟩) hg v11
/-- A row of 13 laid over another one's box. -/
def put13 (w : World) (g : Nat) (v0 v1 v2 v3 v4 v5 v6 v7 v8 v9 v10 v11 v12 : Value) : World := (((((((((((((w.setCell ⟨g, 0, none⟩ v0).setCell ⟨g, 1, none⟩ v1).setCell ⟨g, 2, none⟩ v2).setCell ⟨g, 3, none⟩ v3).setCell ⟨g, 4, none⟩ v4).setCell ⟨g, 5, none⟩ v5).setCell ⟨g, 6, none⟩ v6).setCell ⟨g, 7, none⟩ v7).setCell ⟨g, 8, none⟩ v8).setCell ⟨g, 9, none⟩ v9).setCell ⟨g, 10, none⟩ v10).setCell ⟨g, 11, none⟩ v11).setCell ⟨g, 12, none⟩ v12)
theorem put13_box {w : World} {g : Nat} {T : TypeId} {z0 z1 z2 z3 z4 z5 z6 z7 z8 z9 z10 z11 z12 : Value} (h : RowBox w g #[z0, z1, z2, z3, z4, z5, z6, z7, z8, z9, z10, z11, z12] T) (v0 v1 v2 v3 v4 v5 v6 v7 v8 v9 v10 v11 v12 : Value) : RowBox (put13 w g v0 v1 v2 v3 v4 v5 v6 v7 v8 v9 v10 v11 v12) g #[v0, v1, v2, v3, v4, v5, v6, v7, v8, v9, v10, v11, v12] T := by
  unfold put13
  have h0 := h.set (cs' := #[v0, z1, z2, z3, z4, z5, z6, z7, z8, z9, z10, z11, z12]) 0 v0 rfl
  have h1 := h0.set (cs' := #[v0, v1, z2, z3, z4, z5, z6, z7, z8, z9, z10, z11, z12]) 1 v1 rfl
  have h2 := h1.set (cs' := #[v0, v1, v2, z3, z4, z5, z6, z7, z8, z9, z10, z11, z12]) 2 v2 rfl
  have h3 := h2.set (cs' := #[v0, v1, v2, v3, z4, z5, z6, z7, z8, z9, z10, z11, z12]) 3 v3 rfl
  have h4 := h3.set (cs' := #[v0, v1, v2, v3, v4, z5, z6, z7, z8, z9, z10, z11, z12]) 4 v4 rfl
  have h5 := h4.set (cs' := #[v0, v1, v2, v3, v4, v5, z6, z7, z8, z9, z10, z11, z12]) 5 v5 rfl
  have h6 := h5.set (cs' := #[v0, v1, v2, v3, v4, v5, v6, z7, z8, z9, z10, z11, z12]) 6 v6 rfl
  have h7 := h6.set (cs' := #[v0, v1, v2, v3, v4, v5, v6, v7, z8, z9, z10, z11, z12]) 7 v7 rfl
  have h8 := h7.set (cs' := #[v0, v1, v2, v3, v4, v5, v6, v7, v8, z9, z10, z11, z12]) 8 v8 rfl
  have h9 := h8.set (cs' := #[v0, v1, v2, v3, v4, v5, v6, v7, v8, v9, z10, z11, z12]) 9 v9 rfl
  have h10 := h9.set (cs' := #[v0, v1, v2, v3, v4, v5, v6, v7, v8, v9, v10, z11, z12]) 10 v10 rfl
  have h11 := h10.set (cs' := #[v0, v1, v2, v3, v4, v5, v6, v7, v8, v9, v10, v11, z12]) 11 v11 rfl
  have h12 := h11.set (cs' := #[v0, v1, v2, v3, v4, v5, v6, v7, v8, v9, v10, v11, v12]) 12 v12 rfl
  exact h12
theorem put13_heap {w : World} {g i : Nat} (v0 v1 v2 v3 v4 v5 v6 v7 v8 v9 v10 v11 v12 : Value) (h : i ≠ g) : (put13 w g v0 v1 v2 v3 v4 v5 v6 v7 v8 v9 v10 v11 v12).heap[i]? = w.heap[i]? := by
  unfold put13
  simp only [heap_set_ne (p := ⟨g, _, none⟩) h]
theorem put13_size {w : World} {g : Nat} (v0 v1 v2 v3 v4 v5 v6 v7 v8 v9 v10 v11 v12 : Value) : (put13 w g v0 v1 v2 v3 v4 v5 v6 v7 v8 v9 v10 v11 v12).heap.size = w.heap.size := by
  unfold put13
  simp
theorem put13_below {B : Nat} {w0 w : World} {g : Nat} (h : Below B w0 w) (hg : B ≤ g) (v0 v1 v2 v3 v4 v5 v6 v7 v8 v9 v10 v11 v12 : Value) : Below B w0 (put13 w g v0 v1 v2 v3 v4 v5 v6 v7 v8 v9 v10 v11 v12) := by
  unfold put13
  exact ((((((((((((h.setCell (p := ⟨g, 0, none⟩) hg v0).setCell (p := ⟨g, 1, none⟩) hg v1).setCell (p := ⟨g, 2, none⟩) hg v2).setCell (p := ⟨g, 3, none⟩) hg v3).setCell (p := ⟨g, 4, none⟩) hg v4).setCell (p := ⟨g, 5, none⟩) hg v5).setCell (p := ⟨g, 6, none⟩) hg v6).setCell (p := ⟨g, 7, none⟩) hg v7).setCell (p := ⟨g, 8, none⟩) hg v8).setCell (p := ⟨g, 9, none⟩) hg v9).setCell (p := ⟨g, 10, none⟩) hg v10).setCell (p := ⟨g, 11, none⟩) hg v11).setCell (p := ⟨g, 12, none⟩) hg v12
theorem put13_kept {b : Nat} {w0 w : World} {g : Nat} (h : KeptBut b w0 w) (hg : w0.heap.size ≤ g) (v0 v1 v2 v3 v4 v5 v6 v7 v8 v9 v10 v11 v12 : Value) : KeptBut b w0 (put13 w g v0 v1 v2 v3 v4 v5 v6 v7 v8 v9 v10 v11 v12) := by
  unfold put13
  exact ((((((((((((h.set_new (p := ⟨g, 0, none⟩) hg v0).set_new (p := ⟨g, 1, none⟩) hg v1).set_new (p := ⟨g, 2, none⟩) hg v2).set_new (p := ⟨g, 3, none⟩) hg v3).set_new (p := ⟨g, 4, none⟩) hg v4).set_new (p := ⟨g, 5, none⟩) hg v5).set_new (p := ⟨g, 6, none⟩) hg v6).set_new (p := ⟨g, 7, none⟩) hg v7).set_new (p := ⟨g, 8, none⟩) hg v8).set_new (p := ⟨g, 9, none⟩) hg v9).set_new (p := ⟨g, 10, none⟩) hg v10).set_new (p := ⟨g, 11, none⟩) hg v11).set_new (p := ⟨g, 12, none⟩) hg v12

/-- An event, its operation as bytes. -/
structure RawR where
  at_ : Int
  err : Int
  dp : Int
  dc : Int
  s : List UInt8
def RawR.cells (x : RawR) : Array Value := #[.int .i64 x.at_, .int .i64 0, .int .i64 0, .int .i64 0, .int .i64 0, .int .i64 0, .int .i64 0, .string ⟨#[]⟩, .string ⟨#[]⟩, .int .i64 x.err, .int .i64 x.dp, .int .i64 x.dc, .string (bs x.s)]
/-- An event off bytes. -/
def takeT (r : Rd) : RawR × Rd :=
  let a := r.num 399
  let b := a.2.num 1073741824
  let c := b.2.txt 65536
  let d := c.2.num 63
  let e := d.2.num 1048576
  (⟨a.1, b.1, d.1, e.1, c.1⟩, e.2)
/-- Where a take stands: the reader at b, the event's box, the result's. -/
structure TkT (T : TypeId) (b rb xb B : Nat) (w0 : World) (cs : Array Value) (r : Rd) (w : World) : Prop where
  rd : RdAt T w b r
  kept : KeptBut b w0 w
  box : RowBox w xb cs 68
  ret : RowBox w rb #[.int .i64 0, .int .i64 0, .int .i64 0, .int .i64 0, .int .i64 0, .int .i64 0, .int .i64 0, .string ⟨#[]⟩, .string ⟨#[]⟩, .int .i64 0, .int .i64 0, .int .i64 0, .string ⟨#[]⟩] 68
  len : r.l.length ≤ B
theorem TkT.set {T : TypeId} {b rb xb B : Nat} {w0 : World} {cs cs' : Array Value} {r : Rd} {w : World} (h : TkT T b rb xb B w0 cs r w) (hxb : xb ≠ b) (hxr : xb ≠ rb) (hx0 : w0.heap.size ≤ xb) (i : Nat) (v : Value) (hc : cs.setIfInBounds i v = cs') :
    TkT T b rb xb B w0 cs' r (w.setCell ⟨xb, i, none⟩ v) :=
  ⟨h.rd.set_ne (fun e => hxb e.symm) _, h.kept.set_new hx0 _, h.box.set i v hc, h.ret.set_ne (fun e => hxr e.symm) _, h.len⟩
theorem TkT.step {T : TypeId} {b rb xb B : Nat} {w0 : World} {cs : Array Value} {r r' : Rd} {w w' : World} (h : TkT T b rb xb B w0 cs r w) (hxb : xb ≠ b) (hrb : rb ≠ b) (h1 : RdAt T w' b r') (h2 : KeptBut b w w') (hl : r'.l.length ≤ r.l.length) : TkT T b rb xb B w0 cs r' w' :=
  ⟨h1, h.kept.trans h2, h.box.keptBut h2 hxb, h.ret.keptBut h2 hrb, Nat.le_trans hl h.len⟩
theorem TkT.num {b rb xb B : Nat} {w0 : World} {cs : Array Value} {r : Rd} {w : World} (h : TkT 88 b rb xb B w0 cs r w) (hxb : xb ≠ b) (hrb : rb ≠ b) (most : Int) :
    Calls Tryd.prog 31 #[.pointer (some ⟨b, 0, none⟩), .int .i64 most] w fun v w' => v = .returned (.int .i64 (r.num most).1) ∧ TkT 88 b rb xb B w0 cs (r.num most).2 w' :=
  (cnum_any b r most w h.rd).mono fun v w' ⟨e, h1, h2⟩ => ⟨e, h.step hxb hrb h1 h2 (r.num_len most)⟩
theorem TkT.txt {b rb xb B : Nat} {w0 : World} {cs : Array Value} {r : Rd} {w : World} (h : TkT 88 b rb xb B w0 cs r w) (hxb : xb ≠ b) (hrb : rb ≠ b) (hB : B ≤ 9223372036854775807) (most : Int) :
    Calls Tryd.prog 58 #[.pointer (some ⟨b, 0, none⟩), .int .i64 most] w fun v w' => v = .returned (.string (bs (r.txt most).1)) ∧ TkT 88 b rb xb B w0 cs (r.txt most).2 w' :=
  (ctxt_any b r (Nat.le_trans h.len hB) most w h.rd).mono fun v w' ⟨e, h1, h2⟩ => ⟨e, h.step hxb hrb h1 h2 (r.txt_len most)⟩
theorem size_raw : (Tryd.prog.info? 68).map (·.size) = some 13 := by kernel_rfl
theorem size_event : (Tryd.prog.info? 34).map (·.size) = some 12 := by kernel_rfl

def TakeTPost (b : Nat) (s : RawR × Rd) (w : World) (v : Ending) (w' : World) : Prop :=
  (s.2.e = 0 → v = .returned (.agg s.1.cells) ∧ RdAt 88 w' b s.2) ∧ (s.2.e ≠ 0 → v = .panicked [{ v := thrownV s.2.e, recovered := false }]) ∧ KeptBut b w w'

set_option maxHeartbeats 8000000 in
set_option maxRecDepth 100000 in
theorem ttake_any (b B : Nat) (r : Rd) (hB : r.l.length ≤ B) (hBB : B ≤ 9223372036854775807) (w : World) (h : RdAt 88 w b r) :
    Calls Tryd.prog 32 #[.pointer (some ⟨b, 0, none⟩)] w (TakeTPost b (takeT r) w) := by
  have hlt := h.lt
  obtain ⟨a1, ha1⟩ : ∃ v, (r.num 399).1 = v := ⟨_, rfl⟩
  obtain ⟨r1, hr1⟩ : ∃ v, (r.num 399).2 = v := ⟨_, rfl⟩
  obtain ⟨a2, ha2⟩ : ∃ v, (r1.num 1073741824).1 = v := ⟨_, rfl⟩
  obtain ⟨r2, hr2⟩ : ∃ v, (r1.num 1073741824).2 = v := ⟨_, rfl⟩
  obtain ⟨a3, ha3⟩ : ∃ v, (r2.txt 65536).1 = v := ⟨_, rfl⟩
  obtain ⟨r3, hr3⟩ : ∃ v, (r2.txt 65536).2 = v := ⟨_, rfl⟩
  obtain ⟨s3, hs3⟩ : ∃ v, bs a3 = v := ⟨_, rfl⟩
  obtain ⟨a4, ha4⟩ : ∃ v, (r3.num 63).1 = v := ⟨_, rfl⟩
  obtain ⟨r4, hr4⟩ : ∃ v, (r3.num 63).2 = v := ⟨_, rfl⟩
  obtain ⟨a5, ha5⟩ : ∃ v, (r4.num 1048576).1 = v := ⟨_, rfl⟩
  obtain ⟨r5, hr5⟩ : ∃ v, (r4.num 1048576).2 = v := ⟨_, rfl⟩
  have HT : Hid (takeT r = (⟨a1, a2, a4, a5, a3⟩, r5)) := Lib.hid (by unfold takeT; simp only [ha1, hr1, ha2, hr2, ha3, hr3, ha4, hr4, ha5, hr5])
  rw [HT.out]
  have H1 := Lib.hid (And.intro ha1 hr1)
  have H2 := Lib.hid (And.intro ha2 hr2)
  have H3 := Lib.hid (And.intro (And.intro ha3 hs3) hr3)
  have H4 := Lib.hid (And.intro ha4 hr4)
  have H5 := Lib.hid (And.intro ha5 hr5)
  obtain ⟨w1, hw1⟩ : ∃ W, w.alloc (.cells #[.int .i64 0, .int .i64 0, .int .i64 0, .int .i64 0, .int .i64 0, .int .i64 0, .int .i64 0, .string ⟨#[]⟩, .string ⟨#[]⟩, .int .i64 0, .int .i64 0, .int .i64 0, .string ⟨#[]⟩] 68) = W := ⟨_, rfl⟩
  have hb1 : Below w.heap.size w w1 := by rw [← hw1]; exact (Below.refl _ _).alloc (Nat.le_refl _) _
  have hz1 : w1.heap.size = w.heap.size + 1 := by rw [← hw1]; simp
  have hx1 : RowBox w1 w.heap.size #[.int .i64 0, .int .i64 0, .int .i64 0, .int .i64 0, .int .i64 0, .int .i64 0, .int .i64 0, .string ⟨#[]⟩, .string ⟨#[]⟩, .int .i64 0, .int .i64 0, .int .i64 0, .string ⟨#[]⟩] 68 := by rw [← hw1]; exact World.alloc_heap_new _ _
  obtain ⟨w2, hw2⟩ : ∃ W, w1.alloc (.cells #[.int .i64 0, .int .i64 0, .int .i64 0, .int .i64 0, .int .i64 0, .int .i64 0, .int .i64 0, .string ⟨#[]⟩, .string ⟨#[]⟩, .int .i64 0, .int .i64 0, .int .i64 0, .string ⟨#[]⟩] 68) = W := ⟨_, rfl⟩
  have hb2 : Below w1.heap.size w1 w2 := by rw [← hw2]; exact (Below.refl _ _).alloc (Nat.le_refl _) _
  have hx2 : RowBox w2 w1.heap.size #[.int .i64 0, .int .i64 0, .int .i64 0, .int .i64 0, .int .i64 0, .int .i64 0, .int .i64 0, .string ⟨#[]⟩, .string ⟨#[]⟩, .int .i64 0, .int .i64 0, .int .i64 0, .string ⟨#[]⟩] 68 := by rw [← hw2]; exact World.alloc_heap_new _ _
  obtain ⟨xb, hxb⟩ : ∃ xb, w1.heap.size = xb := ⟨_, rfl⟩
  have HXB := Lib.hid hxb
  have HZ1 := Lib.hid hz1
  have HX : Hid (xb ≠ b ∧ xb ≠ w.heap.size ∧ w.heap.size ≤ xb) := Lib.hid (by omega)
  have hrne : w.heap.size ≠ b := by omega
  have HS2 : Hid (TkT 88 b w.heap.size xb B w #[.int .i64 0, .int .i64 0, .int .i64 0, .int .i64 0, .int .i64 0, .int .i64 0, .int .i64 0, .string ⟨#[]⟩, .string ⟨#[]⟩, .int .i64 0, .int .i64 0, .int .i64 0, .string ⟨#[]⟩] r w2) := Lib.hid ⟨(h.below hb1).below hb2, (KeptBut.of_below hb1).trans (KeptBut.of_below hb2), by rw [hxb] at hx2; exact hx2, hx1.below hb2, hB⟩
  have hxs : w.heap.size + 1 = xb := by omega
  have hmf : True := trivial
  clear h hb1 hb2 hx1 hx2 hz1 hB ha1 hr1 ha2 hr2 ha3 hs3 hr3 ha4 hr4 ha5 hr5
  go_enter Tryd.func32, Tryd.ntmps32
  go_wp2_with fail
  refine (HS2.out.num HX.out.1 hrne 399).mono ?_
  rintro e w3 ⟨rfl, hs⟩
  rw [H1.out.1]
  rw [H1.out.2] at hs
  clear hw1 hw2 hxs hxb
  have z3 := hs.box.frozen 0
  have y3 : w3.cell? ⟨xb, 0, none⟩ = some (.int .i64 0) := hs.box.cell 0
  obtain ⟨W3, hW3⟩ : ∃ W, w3.setCell ⟨xb, 0, none⟩ (.int .i64 a1) = W := ⟨_, rfl⟩
  have HS3 : Hid (TkT 88 b w.heap.size xb B w #[.int .i64 a1, .int .i64 0, .int .i64 0, .int .i64 0, .int .i64 0, .int .i64 0, .int .i64 0, .string ⟨#[]⟩, .string ⟨#[]⟩, .int .i64 0, .int .i64 0, .int .i64 0, .string ⟨#[]⟩] r1 W3) := Lib.hid (by rw [← hW3]; exact hs.set HX.out.1 HX.out.2.1 HX.out.2.2 0 _ rfl)
  clear hs
  go_wp2_with fail
  clear z3 y3 hW3
  refine (HS3.out.num HX.out.1 hrne 1073741824).mono ?_
  rintro e w4 ⟨rfl, hs⟩
  rw [H2.out.1]
  rw [H2.out.2] at hs
  have z4 := hs.box.frozen 9
  have y4 : w4.cell? ⟨xb, 9, none⟩ = some (.int .i64 0) := hs.box.cell 9
  obtain ⟨W4, hW4⟩ : ∃ W, w4.setCell ⟨xb, 9, none⟩ (.int .i64 a2) = W := ⟨_, rfl⟩
  have HS4 : Hid (TkT 88 b w.heap.size xb B w #[.int .i64 a1, .int .i64 0, .int .i64 0, .int .i64 0, .int .i64 0, .int .i64 0, .int .i64 0, .string ⟨#[]⟩, .string ⟨#[]⟩, .int .i64 a2, .int .i64 0, .int .i64 0, .string ⟨#[]⟩] r2 W4) := Lib.hid (by rw [← hW4]; exact hs.set HX.out.1 HX.out.2.1 HX.out.2.2 9 _ rfl)
  clear hs
  go_wp2_with fail
  clear z4 y4 hW4
  refine (HS4.out.txt HX.out.1 hrne hBB 65536).mono ?_
  rintro e w5 ⟨rfl, hs⟩
  rw [H3.out.1.1, H3.out.1.2]
  rw [H3.out.2] at hs
  have z5 := hs.box.frozen 12
  have y5 : w5.cell? ⟨xb, 12, none⟩ = some (.string ⟨#[]⟩) := hs.box.cell 12
  obtain ⟨W5, hW5⟩ : ∃ W, w5.setCell ⟨xb, 12, none⟩ (.string s3) = W := ⟨_, rfl⟩
  have HS5 : Hid (TkT 88 b w.heap.size xb B w #[.int .i64 a1, .int .i64 0, .int .i64 0, .int .i64 0, .int .i64 0, .int .i64 0, .int .i64 0, .string ⟨#[]⟩, .string ⟨#[]⟩, .int .i64 a2, .int .i64 0, .int .i64 0, .string s3] r3 W5) := Lib.hid (by rw [← hW5]; exact hs.set HX.out.1 HX.out.2.1 HX.out.2.2 12 _ rfl)
  clear hs
  go_wp2_with fail
  clear z5 y5 hW5
  refine (HS5.out.num HX.out.1 hrne 63).mono ?_
  rintro e w6 ⟨rfl, hs⟩
  rw [H4.out.1]
  rw [H4.out.2] at hs
  have z6 := hs.box.frozen 10
  have y6 : w6.cell? ⟨xb, 10, none⟩ = some (.int .i64 0) := hs.box.cell 10
  obtain ⟨W6, hW6⟩ : ∃ W, w6.setCell ⟨xb, 10, none⟩ (.int .i64 a4) = W := ⟨_, rfl⟩
  have HS6 : Hid (TkT 88 b w.heap.size xb B w #[.int .i64 a1, .int .i64 0, .int .i64 0, .int .i64 0, .int .i64 0, .int .i64 0, .int .i64 0, .string ⟨#[]⟩, .string ⟨#[]⟩, .int .i64 a2, .int .i64 a4, .int .i64 0, .string s3] r4 W6) := Lib.hid (by rw [← hW6]; exact hs.set HX.out.1 HX.out.2.1 HX.out.2.2 10 _ rfl)
  clear hs
  go_wp2_with fail
  clear z6 y6 hW6
  refine (HS6.out.num HX.out.1 hrne 1048576).mono ?_
  rintro e w7 ⟨rfl, hs⟩
  rw [H5.out.1]
  rw [H5.out.2] at hs
  have z7 := hs.box.frozen 11
  have y7 : w7.cell? ⟨xb, 11, none⟩ = some (.int .i64 0) := hs.box.cell 11
  obtain ⟨W7, hW7⟩ : ∃ W, w7.setCell ⟨xb, 11, none⟩ (.int .i64 a5) = W := ⟨_, rfl⟩
  have HS7 : Hid (TkT 88 b w.heap.size xb B w #[.int .i64 a1, .int .i64 0, .int .i64 0, .int .i64 0, .int .i64 0, .int .i64 0, .int .i64 0, .string ⟨#[]⟩, .string ⟨#[]⟩, .int .i64 a2, .int .i64 a4, .int .i64 a5, .string s3] r5 W7) := Lib.hid (by rw [← hW7]; exact hs.set HX.out.1 HX.out.2.1 HX.out.2.2 11 _ rfl)
  clear hs
  go_wp2_with fail
  clear z7 y7 hW7
  refine (cerr_any b (bs r5.l) r5.e W7 HS7.out.rd).mono ?_
  rintro e w8 ⟨rfl, rfl⟩
  by_cases he : r5.e = 0
  · rw [he]
    have HE := Lib.hid he
    clear he
    go_wp2_with fail
    refine (need_ok W7).mono ?_
    rintro e w8 ⟨rfl, rfl⟩
    have y0 : W7.cell? ⟨xb, 0, none⟩ = some (.int .i64 a1) := HS7.out.box.cell 0
    have y1 : W7.cell? ⟨xb, 1, none⟩ = some (.int .i64 0) := HS7.out.box.cell 1
    have y2 : W7.cell? ⟨xb, 2, none⟩ = some (.int .i64 0) := HS7.out.box.cell 2
    have y3 : W7.cell? ⟨xb, 3, none⟩ = some (.int .i64 0) := HS7.out.box.cell 3
    have y4 : W7.cell? ⟨xb, 4, none⟩ = some (.int .i64 0) := HS7.out.box.cell 4
    have y5 : W7.cell? ⟨xb, 5, none⟩ = some (.int .i64 0) := HS7.out.box.cell 5
    have y6 : W7.cell? ⟨xb, 6, none⟩ = some (.int .i64 0) := HS7.out.box.cell 6
    have y7 : W7.cell? ⟨xb, 7, none⟩ = some (.string ⟨#[]⟩) := HS7.out.box.cell 7
    have y8 : W7.cell? ⟨xb, 8, none⟩ = some (.string ⟨#[]⟩) := HS7.out.box.cell 8
    have y9 : W7.cell? ⟨xb, 9, none⟩ = some (.int .i64 a2) := HS7.out.box.cell 9
    have y10 : W7.cell? ⟨xb, 10, none⟩ = some (.int .i64 a4) := HS7.out.box.cell 10
    have y11 : W7.cell? ⟨xb, 11, none⟩ = some (.int .i64 a5) := HS7.out.box.cell 11
    have y12 : W7.cell? ⟨xb, 12, none⟩ = some (.string s3) := HS7.out.box.cell 12
    have q0 : W7.cell? ⟨w.heap.size, 0, none⟩ = some (.int .i64 0) := HS7.out.ret.cell 0
    have q1 : W7.cell? ⟨w.heap.size, 1, none⟩ = some (.int .i64 0) := HS7.out.ret.cell 1
    have q2 : W7.cell? ⟨w.heap.size, 2, none⟩ = some (.int .i64 0) := HS7.out.ret.cell 2
    have q3 : W7.cell? ⟨w.heap.size, 3, none⟩ = some (.int .i64 0) := HS7.out.ret.cell 3
    have q4 : W7.cell? ⟨w.heap.size, 4, none⟩ = some (.int .i64 0) := HS7.out.ret.cell 4
    have q5 : W7.cell? ⟨w.heap.size, 5, none⟩ = some (.int .i64 0) := HS7.out.ret.cell 5
    have q6 : W7.cell? ⟨w.heap.size, 6, none⟩ = some (.int .i64 0) := HS7.out.ret.cell 6
    have q7 : W7.cell? ⟨w.heap.size, 7, none⟩ = some (.string ⟨#[]⟩) := HS7.out.ret.cell 7
    have q8 : W7.cell? ⟨w.heap.size, 8, none⟩ = some (.string ⟨#[]⟩) := HS7.out.ret.cell 8
    have q9 : W7.cell? ⟨w.heap.size, 9, none⟩ = some (.int .i64 0) := HS7.out.ret.cell 9
    have q10 : W7.cell? ⟨w.heap.size, 10, none⟩ = some (.int .i64 0) := HS7.out.ret.cell 10
    have q11 : W7.cell? ⟨w.heap.size, 11, none⟩ = some (.int .i64 0) := HS7.out.ret.cell 11
    have q12 : W7.cell? ⟨w.heap.size, 12, none⟩ = some (.string ⟨#[]⟩) := HS7.out.ret.cell 12
    have z0 := HS7.out.ret.frozen 0
    have z1 := HS7.out.ret.frozen 1
    have z2 := HS7.out.ret.frozen 2
    have z3 := HS7.out.ret.frozen 3
    have z4 := HS7.out.ret.frozen 4
    have z5 := HS7.out.ret.frozen 5
    have z6 := HS7.out.ret.frozen 6
    have z7 := HS7.out.ret.frozen 7
    have z8 := HS7.out.ret.frozen 8
    have z9 := HS7.out.ret.frozen 9
    have z10 := HS7.out.ret.frozen 10
    have z11 := HS7.out.ret.frozen 11
    have z12 := HS7.out.ret.frozen 12
    go_wp2_with fail
    have HF := put13_box HS7.out.ret (.int .i64 a1) (.int .i64 0) (.int .i64 0) (.int .i64 0) (.int .i64 0) (.int .i64 0) (.int .i64 0) (.string ⟨#[]⟩) (.string ⟨#[]⟩) (.int .i64 a2) (.int .i64 a4) (.int .i64 a5) (.string s3)
    refine bodyPost_ret (results_cell_row rfl _ _ w.heap.size 68 #[.int .i64 a1, .int .i64 0, .int .i64 0, .int .i64 0, .int .i64 0, .int .i64 0, .int .i64 0, .string ⟨#[]⟩, .string ⟨#[]⟩, .int .i64 a2, .int .i64 a4, .int .i64 a5, .string s3] (0, 0) _ rfl HF Tryd.underlying68 rfl size_raw) rfl ?_
    refine ⟨fun _ => ⟨?_, ?_⟩, fun h => absurd HE.out h, put13_kept HS7.out.kept (Nat.le_refl _) (.int .i64 a1) (.int .i64 0) (.int .i64 0) (.int .i64 0) (.int .i64 0) (.int .i64 0) (.int .i64 0) (.string ⟨#[]⟩) (.string ⟨#[]⟩) (.int .i64 a2) (.int .i64 a4) (.int .i64 a5) (.string s3)⟩
    · simp only [RawR.cells]
      rw [H3.out.1.2]
    · exact HS7.out.rd.of_block (put13_heap (.int .i64 a1) (.int .i64 0) (.int .i64 0) (.int .i64 0) (.int .i64 0) (.int .i64 0) (.int .i64 0) (.string ⟨#[]⟩) (.string ⟨#[]⟩) (.int .i64 a2) (.int .i64 a4) (.int .i64 a5) (.string s3) (fun e => hrne e.symm))
  · have HE := Lib.hid he
    go_wp2_with fail
    refine (need_bad _ he W7).mono ?_
    rintro e w8 ⟨rfl, rfl⟩
    go_wp2_with fail
    exact ⟨rfl, fun h => absurd h HE.out, fun _ => rfl, HS7.out.kept⟩
end Go.Proofs.YtjmfdacnaodfdaaDoor

namespace Go.Proofs.YtjmfdacnaodfdaaDoor
set_option linter.unusedVariables false
set_option linter.unusedSimpArgs false
open Go.RowKit

theorem addr_zero (a : Addr) : a.add 0 = a := by unfold Addr.add; simp
/-- An operation laid into an event's box. -/
def putO (w : World) (g : Nat) (v1 v2 v3 v4 v5 v6 v7 v8 : Value) : World := ((((((((w.setCell ⟨g, 1, none⟩ v1).setCell ⟨g, 2, none⟩ v2).setCell ⟨g, 3, none⟩ v3).setCell ⟨g, 4, none⟩ v4).setCell ⟨g, 5, none⟩ v5).setCell ⟨g, 6, none⟩ v6).setCell ⟨g, 7, none⟩ v7).setCell ⟨g, 8, none⟩ v8)
theorem putO_box {w : World} {g : Nat} {T : TypeId} {z0 z1 z2 z3 z4 z5 z6 z7 z8 z9 z10 z11 z12 : Value} (h : RowBox w g #[z0, z1, z2, z3, z4, z5, z6, z7, z8, z9, z10, z11, z12] T) (v1 v2 v3 v4 v5 v6 v7 v8 : Value) : RowBox (putO w g v1 v2 v3 v4 v5 v6 v7 v8) g #[z0, v1, v2, v3, v4, v5, v6, v7, v8, z9, z10, z11, z12] T := by
  unfold putO
  have h1 := h.set (cs' := #[z0, v1, z2, z3, z4, z5, z6, z7, z8, z9, z10, z11, z12]) 1 v1 rfl
  have h2 := h1.set (cs' := #[z0, v1, v2, z3, z4, z5, z6, z7, z8, z9, z10, z11, z12]) 2 v2 rfl
  have h3 := h2.set (cs' := #[z0, v1, v2, v3, z4, z5, z6, z7, z8, z9, z10, z11, z12]) 3 v3 rfl
  have h4 := h3.set (cs' := #[z0, v1, v2, v3, v4, z5, z6, z7, z8, z9, z10, z11, z12]) 4 v4 rfl
  have h5 := h4.set (cs' := #[z0, v1, v2, v3, v4, v5, z6, z7, z8, z9, z10, z11, z12]) 5 v5 rfl
  have h6 := h5.set (cs' := #[z0, v1, v2, v3, v4, v5, v6, z7, z8, z9, z10, z11, z12]) 6 v6 rfl
  have h7 := h6.set (cs' := #[z0, v1, v2, v3, v4, v5, v6, v7, z8, z9, z10, z11, z12]) 7 v7 rfl
  have h8 := h7.set (cs' := #[z0, v1, v2, v3, v4, v5, v6, v7, v8, z9, z10, z11, z12]) 8 v8 rfl
  exact h8
theorem putO_heap {w : World} {g i : Nat} (v1 v2 v3 v4 v5 v6 v7 v8 : Value) (h : i ≠ g) : (putO w g v1 v2 v3 v4 v5 v6 v7 v8).heap[i]? = w.heap[i]? := by
  unfold putO
  simp only [heap_set_ne (p := ⟨g, _, none⟩) h]
theorem putO_below {B : Nat} {w0 w : World} {g : Nat} (h : Below B w0 w) (hg : B ≤ g) (v1 v2 v3 v4 v5 v6 v7 v8 : Value) : Below B w0 (putO w g v1 v2 v3 v4 v5 v6 v7 v8) := by
  unfold putO
  exact (((((((h.setCell (p := ⟨g, 1, none⟩) hg v1).setCell (p := ⟨g, 2, none⟩) hg v2).setCell (p := ⟨g, 3, none⟩) hg v3).setCell (p := ⟨g, 4, none⟩) hg v4).setCell (p := ⟨g, 5, none⟩) hg v5).setCell (p := ⟨g, 6, none⟩) hg v6).setCell (p := ⟨g, 7, none⟩) hg v7).setCell (p := ⟨g, 8, none⟩) hg v8
/-- An event of which the operation stands as bytes, or what is wrong. -/
def wholeM (x : RawR) : EvR × Int :=
  let R := readM x.s
  if R.2 ≠ 0 then (⟨0, zeroR, 0, 0, 0⟩, R.2) else
  match R.1 with
  | [op] => (⟨x.at_, op, x.err, x.dp, x.dc⟩, evM ⟨x.at_, op, x.err, x.dp, x.dc⟩)
  | _ => (⟨0, zeroR, 0, 0, 0⟩, 7)
def WholePost (s : EvR × Int) (w : World) (v : Ending) (w' : World) : Prop :=
  (s.2 = 0 → v = .returned (.agg s.1.cells)) ∧ (s.2 ≠ 0 → v = .panicked [{ v := thrownV s.2, recovered := false }]) ∧ Below w.heap.size w w'

set_option maxHeartbeats 8000000 in
set_option maxRecDepth 100000 in
theorem whole_any (x : RawR) (hs : x.s.length ≤ 1000000000) (w : World) (hd : Flds w) (h0 : 0 < w.heap.size) :
    Calls Tryd.prog 35 #[.agg x.cells] w (WholePost (wholeM x) w) := by
  obtain ⟨at_, er, dp, dc, s⟩ := x
  simp only at hs
  obtain ⟨S, hS⟩ : ∃ S, bs s = S := ⟨_, rfl⟩
  obtain ⟨w1, hw1⟩ : ∃ W, w.alloc (.cells #[.int .i64 at_, .int .i64 0, .int .i64 0, .int .i64 0, .int .i64 0, .int .i64 0, .int .i64 0, .string ⟨#[]⟩, .string ⟨#[]⟩, .int .i64 er, .int .i64 dp, .int .i64 dc, .string S] 68) = W := ⟨_, rfl⟩
  have hb1 : Below w.heap.size w w1 := by rw [← hw1]; exact (Below.refl _ _).alloc (Nat.le_refl _) _
  have hz1 : w1.heap.size = w.heap.size + 1 := by rw [← hw1]; simp
  have hx1 : RowBox w1 w.heap.size #[.int .i64 at_, .int .i64 0, .int .i64 0, .int .i64 0, .int .i64 0, .int .i64 0, .int .i64 0, .string ⟨#[]⟩, .string ⟨#[]⟩, .int .i64 er, .int .i64 dp, .int .i64 dc, .string S] 68 := by rw [← hw1]; exact World.alloc_heap_new _ _
  obtain ⟨w2, hw2⟩ : ∃ W, w1.alloc (.cells #[.int .i64 0, .int .i64 0, .int .i64 0, .int .i64 0, .int .i64 0, .int .i64 0, .int .i64 0, .string ⟨#[]⟩, .string ⟨#[]⟩, .int .i64 0, .int .i64 0, .int .i64 0] 34) = W := ⟨_, rfl⟩
  have hb2 : Below w1.heap.size w1 w2 := by rw [← hw2]; exact (Below.refl _ _).alloc (Nat.le_refl _) _
  have hx2 : RowBox w2 w1.heap.size #[.int .i64 0, .int .i64 0, .int .i64 0, .int .i64 0, .int .i64 0, .int .i64 0, .int .i64 0, .string ⟨#[]⟩, .string ⟨#[]⟩, .int .i64 0, .int .i64 0, .int .i64 0] 34 := by rw [← hw2]; exact World.alloc_heap_new _ _
  have HB2 : Hid (Below w.heap.size w w2) := Lib.hid (hb1.trans (hb2.mono (by omega)))
  have HX : Hid (RowBox w2 w.heap.size #[.int .i64 at_, .int .i64 0, .int .i64 0, .int .i64 0, .int .i64 0, .int .i64 0, .int .i64 0, .string ⟨#[]⟩, .string ⟨#[]⟩, .int .i64 er, .int .i64 dp, .int .i64 dc, .string S] 68) := Lib.hid (hx1.below hb2)
  rw [hz1] at hx2
  have HY := Lib.hid hx2
  have HD := Lib.hid ((hd.below hb1).below hb2)
  have HSZ : Hid (w.heap.size + 2 ≤ w2.heap.size) := Lib.hid (by rw [← hw2]; simp; omega)
  have HRD := Lib.hid (oread_any s hs w2 HD.out (by have := HSZ.out; omega))
  obtain ⟨l, E, hR⟩ : ∃ l E, readM s = (l, E) := ⟨_, _, rfl⟩
  have hWM : wholeM ⟨at_, er, dp, dc, s⟩ = if E ≠ 0 then (⟨0, zeroR, 0, 0, 0⟩, E) else match l with | [op] => (⟨at_, op, er, dp, dc⟩, evM ⟨at_, op, er, dp, dc⟩) | _ => (⟨0, zeroR, 0, 0, 0⟩, 7) := by unfold wholeM; simp only [hR]
  have HWM := Lib.hid hWM
  rw [hR, hS] at HRD
  have hcS : w2.cell? ⟨w.heap.size, 12, none⟩ = some (.string S) := HX.out.cell 12
  obtain ⟨rb, hrb⟩ : ∃ rb, w1.heap.size = rb := ⟨_, rfl⟩
  have hxs : w.heap.size + 1 = rb := by omega
  rw [hxs] at HY
  have HRB := Lib.hid hxs
  simp only [RawR.cells]
  rw [hS]
  clear hs hd hb1 hb2 hx1 hx2 hR hWM hS hz1
  by_cases hE : E = 0
  · have HE := Lib.hid hE
    subst hE
    rcases (show (∃ op, l = [op]) ∨ l.length ≠ 1 by
      match l with
      | [] => right; simp
      | [a] => left; exact ⟨a, rfl⟩
      | a :: b :: t => right; simp) with ⟨op, hl⟩ | hl
    · have HW : Hid (wholeM ⟨at_, er, dp, dc, s⟩ = (⟨at_, op, er, dp, dc⟩, evM ⟨at_, op, er, dp, dc⟩)) := Lib.hid (by rw [HWM.out, hl]; simp)
      rw [HW.out]
      subst hl
      obtain ⟨k, p, t, n, a, m, u, v⟩ := op
      obtain ⟨F, hF⟩ : ∃ F, evM ⟨at_, ⟨k, p, t, n, a, m, u, v⟩, er, dp, dc⟩ = F := ⟨_, rfl⟩
      rw [hF]
      have HCK : Hid (∀ w', Flds w' → Calls Tryd.prog 10 #[.agg #[.int .i64 at_, .int .i64 k, .int .i64 p, .int .i64 t, .int .i64 n, .int .i64 a, .int .i64 m, .string u, .string v, .int .i64 er, .int .i64 dp, .int .i64 dc]] w' fun e w'' => e = .returned (.int .i64 F) ∧ Below w'.heap.size w' w'') := Lib.hid fun w' hd => by rw [← hF]; exact tcheck_any ⟨at_, ⟨k, p, t, n, a, m, u, v⟩, er, dp, dc⟩ w' hd
      clear HWM HW hF
      go_enter Tryd.func35, Tryd.ntmps35
      go_wp2_with fail
      refine HRD.out.mono ?_
      rintro e w3 ⟨⟨h1, _⟩, hb3⟩
      obtain ⟨A, c, rfl, hA⟩ := h1 rfl
      have HB3 := Lib.hid hb3
      obtain ⟨ad, rfl, hc8⟩ := hA 0 (by simp)
      obtain ⟨d0, d1, d2, d3, d4, d5, d6, d7⟩ := hc8
      simp only [List.getElem_cons_zero, Nat.zero_mul, addr_zero] at d0 d1 d2 d3 d4 d5 d6 d7
      clear h1 hb3 hcS hw1 hw2 hxs hrb
      go_wp2_with fail
      refine (need_ok w3).mono ?_
      rintro e w4 ⟨rfl, rfl⟩
      have HX3 := Lib.hid (HX.out.below HB3.out)
      have y0 := HX3.out.cell 0
      have z0 := HX3.out.frozen 0
      have y1 := HX3.out.cell 1
      have z1 := HX3.out.frozen 1
      have y2 := HX3.out.cell 2
      have z2 := HX3.out.frozen 2
      have y3 := HX3.out.cell 3
      have z3 := HX3.out.frozen 3
      have y4 := HX3.out.cell 4
      have z4 := HX3.out.frozen 4
      have y5 := HX3.out.cell 5
      have z5 := HX3.out.frozen 5
      have y6 := HX3.out.cell 6
      have z6 := HX3.out.frozen 6
      have y7 := HX3.out.cell 7
      have z7 := HX3.out.frozen 7
      have y8 := HX3.out.cell 8
      have z8 := HX3.out.frozen 8
      have y9 := HX3.out.cell 9
      have z9 := HX3.out.frozen 9
      have y10 := HX3.out.cell 10
      have z10 := HX3.out.frozen 10
      have y11 := HX3.out.cell 11
      have z11 := HX3.out.frozen 11
      have y12 := HX3.out.cell 12
      have z12 := HX3.out.frozen 12
      simp only [List.getElem?_toArray, List.getElem?_cons_zero, List.getElem?_cons_succ] at y0 y1 y2 y3 y4 y5 y6 y7 y8 y9 y10 y11 y12
      go_wp2_with fail
      have hbox := putO_box HX3.out (.int .i64 k) (.int .i64 p) (.int .i64 t) (.int .i64 n) (.int .i64 a) (.int .i64 m) (.string u) (.string v)
      have hret := (HY.out.below HB3.out).of_block (putO_heap (w := w3) (g := w.heap.size) (.int .i64 k) (.int .i64 p) (.int .i64 t) (.int .i64 n) (.int .i64 a) (.int .i64 m) (.string u) (.string v) (i := rb) (by have := HRB.out; omega))
      have hbel := putO_below (HB2.out.trans (HB3.out.mono HB2.out.size)) (Nat.le_refl _) (.int .i64 k) (.int .i64 p) (.int .i64 t) (.int .i64 n) (.int .i64 a) (.int .i64 m) (.string u) (.string v)
      have hfl := (HD.out.below HB3.out).of_block (putO_heap (w := w3) (g := w.heap.size) (.int .i64 k) (.int .i64 p) (.int .i64 t) (.int .i64 n) (.int .i64 a) (.int .i64 m) (.string u) (.string v) (i := 0) (by omega))
      unfold putO at hbox hret hbel hfl
      refine (HCK.out _ hfl).mono ?_
      rintro e w5 ⟨rfl, hb5⟩
      have HB5 := Lib.hid (hbel.trans (hb5.mono hbel.size))
      have HX5 := Lib.hid (hbox.below hb5)
      have HY5 := Lib.hid (hret.below hb5)
      clear hbox hret hbel hfl hb5 y0 y1 y2 y3 y4 y5 y6 y7 y8 y9 y10 y11 y12 z0 z1 z2 z3 z4 z5 z6 z7 z8 z9 z10 z11 z12 d0 d1 d2 d3 d4 d5 d6 d7
      by_cases hF0 : F = 0
      · have HF := Lib.hid hF0
        subst hF0
        go_wp2_with fail
        refine (need_ok w5).mono ?_
        rintro e w6 ⟨rfl, rfl⟩
        have y0 := HX5.out.cell 0
        have y1 := HX5.out.cell 1
        have y2 := HX5.out.cell 2
        have y3 := HX5.out.cell 3
        have y4 := HX5.out.cell 4
        have y5 := HX5.out.cell 5
        have y6 := HX5.out.cell 6
        have y7 := HX5.out.cell 7
        have y8 := HX5.out.cell 8
        have y9 := HX5.out.cell 9
        have y10 := HX5.out.cell 10
        have y11 := HX5.out.cell 11
        have q0 := HY5.out.cell 0
        have z0 := HY5.out.frozen 0
        have q1 := HY5.out.cell 1
        have z1 := HY5.out.frozen 1
        have q2 := HY5.out.cell 2
        have z2 := HY5.out.frozen 2
        have q3 := HY5.out.cell 3
        have z3 := HY5.out.frozen 3
        have q4 := HY5.out.cell 4
        have z4 := HY5.out.frozen 4
        have q5 := HY5.out.cell 5
        have z5 := HY5.out.frozen 5
        have q6 := HY5.out.cell 6
        have z6 := HY5.out.frozen 6
        have q7 := HY5.out.cell 7
        have z7 := HY5.out.frozen 7
        have q8 := HY5.out.cell 8
        have z8 := HY5.out.frozen 8
        have q9 := HY5.out.cell 9
        have z9 := HY5.out.frozen 9
        have q10 := HY5.out.cell 10
        have z10 := HY5.out.frozen 10
        have q11 := HY5.out.cell 11
        have z11 := HY5.out.frozen 11
        simp only [List.getElem?_toArray, List.getElem?_cons_zero, List.getElem?_cons_succ] at y0 y1 y2 y3 y4 y5 y6 y7 y8 y9 y10 y11 q0 q1 q2 q3 q4 q5 q6 q7 q8 q9 q10 q11
        go_wp2_with fail
        have HFIN := put12_box HY5.out (.int .i64 at_) (.int .i64 k) (.int .i64 p) (.int .i64 t) (.int .i64 n) (.int .i64 a) (.int .i64 m) (.string u) (.string v) (.int .i64 er) (.int .i64 dp) (.int .i64 dc)
        refine bodyPost_ret (results_cell_row rfl _ _ rb 34 (EvR.cells ⟨at_, ⟨k, p, t, n, a, m, u, v⟩, er, dp, dc⟩) (0, 0) _ rfl HFIN Tryd.underlying34 rfl size_event) rfl ?_
        exact ⟨fun _ => rfl, fun h => absurd rfl h, put12_below HB5.out (by have := HRB.out; omega) (.int .i64 at_) (.int .i64 k) (.int .i64 p) (.int .i64 t) (.int .i64 n) (.int .i64 a) (.int .i64 m) (.string u) (.string v) (.int .i64 er) (.int .i64 dp) (.int .i64 dc)⟩
      · have HF := Lib.hid hF0
        go_wp2_with fail
        refine (need_bad F hF0 w5).mono ?_
        rintro e w6 ⟨rfl, rfl⟩
        go_wp2_with fail
        exact ⟨rfl, fun h => absurd h HF.out, fun _ => rfl, HB5.out⟩
    · have HW : Hid (wholeM ⟨at_, er, dp, dc, s⟩ = (⟨0, zeroR, 0, 0, 0⟩, 7)) := Lib.hid (by
        rw [HWM.out, if_neg (by simp)]
        match l, hl with
        | [], _ => rfl
        | [a], h => exact absurd rfl h
        | a :: b :: t, _ => rfl)
      rw [HW.out]
      obtain ⟨N, hN⟩ : ∃ N, l.length = N := ⟨_, rfl⟩
      have hl2 : ((N : Int) == 1) = false := by rw [hN] at hl; simp; omega
      have hl3 : ((N : Int) != 1) = true := by rw [hN] at hl; simp; omega
      have HRD2 : Hid (Calls Tryd.prog 60 #[.string S] w2 fun e w' => (∃ A c, e = .returned (.tuple #[.slice A N c, .int .i64 0])) ∧ Below w2.heap.size w2 w') := Lib.hid (HRD.out.mono fun e w' h => by
        obtain ⟨A, c, he, _⟩ := h.1.1 rfl
        exact ⟨⟨A, c, by rw [he, hN]⟩, h.2⟩)
      clear HWM HRD hl hN
      go_enter Tryd.func35, Tryd.ntmps35
      go_wp2_with fail
      refine HRD2.out.mono ?_
      rintro e w3 ⟨⟨A, c, rfl⟩, hb3⟩
      have HB3 := Lib.hid (HB2.out.trans (hb3.mono HB2.out.size))
      clear hb3 hcS hw1 hw2 hxs hrb
      go_wp2_with fail
      refine (need_ok w3).mono ?_
      rintro e w4 ⟨rfl, rfl⟩
      go_wp2_with fail
      refine (need_bad 7 (by decide) w3).mono ?_
      rintro e w6 ⟨rfl, rfl⟩
      go_wp2_with fail
      exact ⟨rfl, fun h => absurd h (by decide), fun _ => rfl, HB3.out⟩
  · have HE := Lib.hid hE
    have HW : Hid (wholeM ⟨at_, er, dp, dc, s⟩ = (⟨0, zeroR, 0, 0, 0⟩, E)) := Lib.hid (by rw [HWM.out, if_pos hE])
    rw [HW.out]
    have HRD2 : Hid (Calls Tryd.prog 60 #[.string S] w2 fun e w' => e = .returned (.tuple #[.slice none 0 0, .int .i64 E]) ∧ Below w2.heap.size w2 w') := Lib.hid (HRD.out.mono fun e w' h => ⟨h.1.2 HE.out, h.2⟩)
    clear HWM HRD hE
    go_enter Tryd.func35, Tryd.ntmps35
    go_wp2_with fail
    refine HRD2.out.mono ?_
    rintro e w3 ⟨rfl, hb3⟩
    have HB3 := Lib.hid (HB2.out.trans (hb3.mono HB2.out.size))
    clear hb3 hcS hw1 hw2 hxs hrb
    go_wp2_with fail
    refine (need_bad E HE.out w3).mono ?_
    rintro e w6 ⟨rfl, rfl⟩
    go_wp2_with fail
    exact ⟨rfl, fun h => absurd h HE.out, fun _ => rfl, HB3.out⟩
end Go.Proofs.YtjmfdacnaodfdaaDoor

namespace Go.Proofs.YtjmfdacnaodfdaaDoor
set_option linter.unusedVariables false
set_option linter.unusedSimpArgs false
open Go.RowKit

def rowV {α : Type} (f : α → Array Value) (l : List α) : List Value := l.flatMap fun x => (f x).toList
theorem rowV_append {α : Type} (f : α → Array Value) (a b : List α) : rowV f (a ++ b) = rowV f a ++ rowV f b := by simp [rowV]
theorem rowV_length {α : Type} (f : α → Array Value) (k : Nat) (hk : ∀ x, (f x).size = k) (l : List α) : (rowV f l).length = l.length * k := by
  induction l with
  | nil => simp [rowV]
  | cons x l ih =>
    simp only [rowV, List.flatMap_cons, List.length_append, List.length_cons] at ih ⊢
    rw [ih, Array.length_toList, hk, Nat.add_mul, Nat.one_mul, Nat.add_comm]
theorem rowV_drop {α : Type} (f : α → Array Value) (k : Nat) (hk : ∀ x, (f x).size = k) : ∀ (l : List α) (j : Nat), (rowV f l).drop (j * k) = rowV f (l.drop j)
  | l, 0 => by simp
  | [], j + 1 => by simp [rowV]
  | x :: l, j + 1 => by
    show ((f x).toList ++ rowV f l).drop ((j + 1) * k) = rowV f (l.drop j)
    rw [← rowV_drop f k hk l j, show (j + 1) * k = k + j * k by rw [Nat.add_mul, Nat.one_mul, Nat.add_comm], ← List.drop_drop]
    congr 1
    rw [List.drop_append_of_le_length (by rw [Array.length_toList, hk]; exact Nat.le_refl _), List.drop_eq_nil_of_le (by rw [Array.length_toList, hk]; exact Nat.le_refl _), List.nil_append]
theorem rowV_at {α : Type} (f : α → Array Value) (k : Nat) (hk : ∀ x, (f x).size = k) (l : List α) (i : Nat) (h : i < l.length) (j : Nat) (hj : j < k) : (rowV f l)[i * k + j]? = (f l[i])[j]? := by
  rw [← List.getElem?_drop, rowV_drop f k hk, List.drop_eq_getElem_cons h]
  show ((f l[i]).toList ++ rowV f (l.drop (i + 1)))[j]? = _
  rw [List.getElem?_append_left (by rw [Array.length_toList, hk]; exact hj), Array.getElem?_toList]
theorem rowV_one {α : Type} (f : α → Array Value) (hf : ∀ x, ∀ u ∈ (f x).toList, u.oneCell' = true) (l : List α) : ∀ u ∈ rowV f l, u.oneCell' = true := by
  intro u hu
  simp only [rowV, List.mem_flatMap] at hu
  obtain ⟨x, _, h⟩ := hu
  exact hf x u h
theorem rows_own {α : Type} (f : α → Array Value) (k : Nat) (hk : ∀ x, (f x).size = k) (h0 : 0 < k) {w : World} {base e n c : Nat} {A : Option Addr} {l : List α} (h : w.ownsRow base e k (.slice A n c) n (rowV f l)) :
    n = l.length ∧ ∀ i (hi : i < l.length), ∃ g, A = some ⟨g, 0, none⟩ ∧ base ≤ g ∧ ∀ j u, j < k → (f l[i])[j]? = some u → w.cell? ⟨g, i * k + j, none⟩ = some u := by
  have hn : n = l.length := by
    have := h.1
    rw [rowV_length f k hk] at this
    exact (Nat.eq_of_mul_eq_mul_right h0 this).symm
  refine ⟨hn, fun i hi => ?_⟩
  rcases h.2 with ⟨h1, h2⟩ | ⟨g, cap, cur, h1, hg, hb, h2, h3, h4, h5⟩
  · omega
  · cases h1
    refine ⟨g, rfl, hg, fun j u hj hu => ?_⟩
    have hlt : i * k + j < n * k := by
      have h6 : (i + 1) * k ≤ n * k := Nat.mul_le_mul_right k (by omega)
      rw [Nat.add_mul, Nat.one_mul] at h6
      omega
    have hc := World.ownsRow.cellAt (w := w) (base := base) (e := e) (size := k) (n := n) (cap := c) (g := g) (xs := rowV f l) h (i * k + j) hlt
    rw [hc, rowV_at f k hk l i hi j hj, hu]

theorem EvR.size (x : EvR) : x.cells.size = 12 := rfl
theorem RawR.size (x : RawR) : x.cells.size = 13 := rfl
theorem EvR.one (x : EvR) : ∀ u ∈ x.cells.toList, u.oneCell' = true := by
  intro u hu
  simp only [EvR.cells, List.mem_cons, List.not_mem_nil, or_false] at hu
  rcases hu with rfl | rfl | rfl | rfl | rfl | rfl | rfl | rfl | rfl | rfl | rfl | rfl <;> rfl
theorem RawR.one (x : RawR) : ∀ u ∈ x.cells.toList, u.oneCell' = true := by
  intro u hu
  simp only [RawR.cells, List.mem_cons, List.not_mem_nil, or_false] at hu
  rcases hu with rfl | rfl | rfl | rfl | rfl | rfl | rfl | rfl | rfl | rfl | rfl | rfl | rfl <;> rfl
abbrev evV := rowV EvR.cells
abbrev rawV := rowV RawR.cells
theorem addr_at (g j : Nat) : (⟨g, 0, none⟩ : Addr).add j = ⟨g, j, none⟩ := addr_add g j
theorem evs_own {w : World} {base e n c : Nat} {A : Option Addr} {l : List EvR} (h : w.ownsRow base e 12 (.slice A n c) n (evV l)) : n = l.length ∧ EvsAt w A l := by
  obtain ⟨h1, h2⟩ := rows_own EvR.cells 12 EvR.size (by decide) h
  refine ⟨h1, fun i hi => ?_⟩
  obtain ⟨g, rfl, _, hc⟩ := h2 i hi
  refine ⟨_, rfl, ?_⟩
  rw [addr_at]
  exact ⟨hc 0 _ (by decide) rfl, hc 1 _ (by decide) rfl, hc 2 _ (by decide) rfl, hc 3 _ (by decide) rfl, hc 4 _ (by decide) rfl, hc 5 _ (by decide) rfl, hc 6 _ (by decide) rfl, hc 7 _ (by decide) rfl, hc 8 _ (by decide) rfl, hc 9 _ (by decide) rfl, hc 10 _ (by decide) rfl, hc 11 _ (by decide) rfl⟩
/-- What an event with its operation as bytes gives at an address. -/
def Cell13 (w : World) (a : Addr) (x : RawR) : Prop := w.cell? a = some (.int .i64 x.at_) ∧ w.cell? ⟨a.block, a.off + 1, none⟩ = some (.int .i64 0) ∧ w.cell? ⟨a.block, a.off + 2, none⟩ = some (.int .i64 0) ∧ w.cell? ⟨a.block, a.off + 3, none⟩ = some (.int .i64 0) ∧
  w.cell? ⟨a.block, a.off + 4, none⟩ = some (.int .i64 0) ∧ w.cell? ⟨a.block, a.off + 5, none⟩ = some (.int .i64 0) ∧ w.cell? ⟨a.block, a.off + 6, none⟩ = some (.int .i64 0) ∧ w.cell? ⟨a.block, a.off + 7, none⟩ = some (.string ⟨#[]⟩) ∧ w.cell? ⟨a.block, a.off + 8, none⟩ = some (.string ⟨#[]⟩) ∧
  w.cell? ⟨a.block, a.off + 9, none⟩ = some (.int .i64 x.err) ∧ w.cell? ⟨a.block, a.off + 10, none⟩ = some (.int .i64 x.dp) ∧ w.cell? ⟨a.block, a.off + 11, none⟩ = some (.int .i64 x.dc) ∧ w.cell? ⟨a.block, a.off + 12, none⟩ = some (.string (bs x.s))
theorem Cell13.of_block {w w' : World} {a : Addr} {x : RawR} (h : Cell13 w a x) (hb : w'.heap[a.block]? = w.heap[a.block]?) : Cell13 w' a x := by
  obtain ⟨h0, h1, h2, h3, h4, h5, h6, h7, h8, h9, h10, h11, h12⟩ := h
  have key : ∀ (o : Nat) (p) (u : Value), w.cell? ⟨a.block, o, p⟩ = some u → w'.cell? ⟨a.block, o, p⟩ = some u := fun o p u h => by rw [World.cell?_of_block (a := ⟨a.block, o, p⟩) hb]; exact h
  exact ⟨key _ _ _ h0, key _ _ _ h1, key _ _ _ h2, key _ _ _ h3, key _ _ _ h4, key _ _ _ h5, key _ _ _ h6, key _ _ _ h7, key _ _ _ h8, key _ _ _ h9, key _ _ _ h10, key _ _ _ h11, key _ _ _ h12⟩
theorem raws_own {w : World} {base e n c : Nat} {A : Option Addr} {l : List RawR} (h : w.ownsRow base e 13 (.slice A n c) n (rawV l)) : n = l.length ∧ ∀ i (hi : i < l.length), ∃ g, A = some ⟨g, 0, none⟩ ∧ base ≤ g ∧ Cell13 w ((⟨g, 0, none⟩ : Addr).add (i * 13)) l[i] := by
  obtain ⟨h1, h2⟩ := rows_own RawR.cells 13 RawR.size (by decide) h
  refine ⟨h1, fun i hi => ?_⟩
  obtain ⟨g, rfl, hg, hc⟩ := h2 i hi
  refine ⟨g, rfl, hg, ?_⟩
  rw [addr_at]
  exact ⟨hc 0 _ (by decide) rfl, hc 1 _ (by decide) rfl, hc 2 _ (by decide) rfl, hc 3 _ (by decide) rfl, hc 4 _ (by decide) rfl, hc 5 _ (by decide) rfl, hc 6 _ (by decide) rfl, hc 7 _ (by decide) rfl, hc 8 _ (by decide) rfl, hc 9 _ (by decide) rfl, hc 10 _ (by decide) rfl, hc 11 _ (by decide) rfl, hc 12 _ (by decide) rfl⟩

def evZ : Value := .agg #[.int .i64 0, .int .i64 0, .int .i64 0, .int .i64 0, .int .i64 0, .int .i64 0, .int .i64 0, .string ByteArray.empty, .string ByteArray.empty, .int .i64 0, .int .i64 0, .int .i64 0]
def rawZ : Value := .agg #[.int .i64 0, .int .i64 0, .int .i64 0, .int .i64 0, .int .i64 0, .int .i64 0, .int .i64 0, .string ByteArray.empty, .string ByteArray.empty, .int .i64 0, .int .i64 0, .int .i64 0, .string ByteArray.empty]
theorem info_Ev : (Tryd.prog.info? 34).map (fun i => (i.zero, i.size, i.bytes)) = some (some evZ, 12, 112) := by kernel_rfl
theorem info_Raw : (Tryd.prog.info? 68).map (fun i => (i.zero, i.size, i.bytes)) = some (some rawZ, 13, 128) := by kernel_rfl

/-! Reading, in plain lists. -/
def rawLoop : Nat → Rd → List RawR → List RawR × Rd
  | 0, r, acc => (acc, r)
  | n + 1, r, acc => if r.e ≠ 0 then (acc, r) else rawLoop n (takeT r).2 (acc ++ [(takeT r).1])
def wholeLoop : List RawR → List EvR → List EvR × Int
  | [], acc => (acc, 0)
  | x :: t, acc => if (wholeM x).2 ≠ 0 then ([], (wholeM x).2) else wholeLoop t (acc ++ [(wholeM x).1])
/-- The events that bytes are, or what is wrong first. -/
def readT (l : List UInt8) : List EvR × Int :=
  let a := (⟨l, 0⟩ : Rd).num 400
  let b := rawLoop a.1.toNat a.2 []
  if b.2.done ≠ 0 then ([], b.2.done) else wholeLoop b.1 []
theorem rawLoop_stop (n : Nat) (r : Rd) (h : r.e ≠ 0) (acc : List RawR) : rawLoop n r acc = (acc, r) := by
  cases n with
  | zero => rfl
  | succ n => unfold rawLoop; rw [if_pos h]
theorem Rd.txt_val_len (r : Rd) (m : Int) : (r.txt m).1.length ≤ r.l.length := by
  unfold Rd.txt
  split
  · simp
  · split
    · simp
    · split
      · simp
      · simp only [List.length_take, List.length_drop]; omega
theorem takeT_len (r : Rd) : (takeT r).2.l.length ≤ r.l.length ∧ (takeT r).1.s.length ≤ r.l.length := by
  unfold takeT
  simp only
  have h1 := r.num_len 399
  have h2 := (r.num 399).2.num_len 1073741824
  have h3 := ((r.num 399).2.num 1073741824).2.txt_len 65536
  have h3' := ((r.num 399).2.num 1073741824).2.txt_val_len 65536
  have h4 := (((r.num 399).2.num 1073741824).2.txt 65536).2.num_len 63
  have h5 := ((((r.num 399).2.num 1073741824).2.txt 65536).2.num 63).2.num_len 1048576
  omega
def ReadTPost (R : List EvR × Int) (w : World) (e : Ending) (w' : World) : Prop :=
  (R.2 = 0 → ∃ A c, e = .returned (.tuple #[.slice A R.1.length c, .int .i64 0]) ∧ EvsAt w' A R.1) ∧
  (R.2 ≠ 0 → e = .returned (.tuple #[.slice none 0 0, .int .i64 R.2])) ∧ Below w.heap.size w w'
end Go.Proofs.YtjmfdacnaodfdaaDoor

namespace Go.Proofs.YtjmfdacnaodfdaaDoor
set_option linter.unusedVariables false
set_option linter.unusedSimpArgs false
open Go.RowKit

theorem step_call {P : Program} {ops : Array Oper} {o : Oper} {a : Act} {w : World} {K : Act → World → Prop} {Q : Exit → Act → World → Prop} {E : Prop}
    (hg : o.guard = none) (f : Nat) (xs : Array Operand) (ts : Array TypeId) (hop : o.op = Op.call { callee := Callee.value (Operand.func f), args := xs, argTypes := ts })
    (henter : ∀ (args : Array Value) (w : World), (callFunc f args).run P w = .ok (.enter f args) w) (args : Array Value) (hargs : xs.map a.eval = args) {R : Ending → World → Prop} (hc : Calls P f args w R)
    (hK : ∀ e w', R e w' → ∃ v, e = .returned v ∧ K (a.put o.dst v) w') :
    if Region.wanted o (yielded ops a.tmps) = true then Oper.wp P o a w K Q else E := by
  have hw : Region.wanted o (yielded ops a.tmps) = true := by simp [Region.wanted, hg]
  rw [if_pos hw]
  have hrun : (execOp a.eval o).run P w = .ok (.enter f args) w := by
    simp [execOp, hop, resolve, invoke, Act.eval, go_sem, henter, hargs]
  unfold Oper.wp
  rw [hrun, Oper.upon_enter]
  refine hc.mono ?_
  intro e w' hR
  obtain ⟨v, rfl, hk⟩ := hK e w' hR
  exact hk
end Go.Proofs.YtjmfdacnaodfdaaDoor

namespace Go.Proofs.YtjmfdacnaodfdaaDoor
set_option linter.unusedVariables false
set_option linter.unusedSimpArgs false
open Go.RowKit

/-- What a panic within Read comes to. -/
theorem readT_caught {R : List EvR × Int} {w w4 : World} (E : Int) (hE : E ≠ 0) (hR : R = ([], E)) (hb : Below w.heap.size w w4) (heb : w4.heap[w.heap.size + 1]? = some (.cells #[.int .i64 0] 25 (0, 0)))
    (v : Value) (hob : RowBox w4 w.heap.size #[v] 22) (tmps : Array Value) (h2 : tmps.getD 2 undef = .pointer (some ⟨w.heap.size, 0, none⟩)) (h3 : tmps.getD 3 undef = .pointer (some ⟨w.heap.size + 1, 0, none⟩)) :
    Leaves Tryd.prog Tryd.f12 tmps (ReadTPost R w) [{ target := .fn (.func 29) #[.pointer (some ⟨w.heap.size + 1, 0, none⟩), .pointer (some ⟨w.heap.size, 0, none⟩)], args := #[] }] (.panicking [{ v := thrownV E, recovered := false }]) w4 := by
  have hce : w4.cell? ⟨w.heap.size + 1, 0, none⟩ = some (.int .i64 0) := by rw [Lib.cell_of_heap heb]; rfl
  have hfe : w4.frozen? ⟨w.heap.size + 1, 0, none⟩ = false := Lib.frozen_of_heap heb 0
  refine leaves_cons (f := 29) (args := #[.pointer (some ⟨w.heap.size + 1, 0, none⟩), .pointer (some ⟨w.heap.size, 0, none⟩)]) (by simp) (by simp [go_sem]) ?_
  refine (read1_panicking (w.heap.size + 1) w.heap.size E 0 hE v [] w4 hce hfe (hob.cell 0) (hob.frozen 0) (by omega)).mono ?_
  rintro e u' w'' ⟨rfl, rfl, rfl⟩
  have hlt := hob.lt
  have hlt2 : w.heap.size + 1 < w4.heap.size := by
    rcases Nat.lt_or_ge (w.heap.size + 1) w4.heap.size with h' | h'
    · exact h'
    · simp [Array.getElem?_eq_none h'] at heb
  have b1 : RowBox (w4.setCell ⟨w.heap.size + 1, 0, none⟩ (.int .i64 E)) (w.heap.size + 1) #[.int .i64 E] 25 := RowBox.set (cs := #[.int .i64 0]) heb 0 _ rfl
  have o1 := hob.set_ne (p := ⟨w.heap.size + 1, 0, none⟩) (by show w.heap.size ≠ w.heap.size + 1; omega) (.int .i64 E)
  have b2 := b1.below ((Below.refl _ _).alloc (Nat.le_refl _) (.cells #[.int .i64 E] 79))
  have o2 := o1.below ((Below.refl _ _).alloc (Nat.le_refl _) (.cells #[.int .i64 E] 79))
  have b3 := b2.set_ne (p := ⟨w.heap.size, 0, none⟩) (by show w.heap.size + 1 ≠ w.heap.size; omega) (.slice none 0 0)
  have o3 := o2.set (cs' := #[.slice none 0 0]) 0 (.slice none 0 0) rfl
  have hbb : Below w.heap.size w (((w4.setCell ⟨w.heap.size + 1, 0, none⟩ (.int .i64 E)).alloc (.cells #[.int .i64 E] 79)).setCell ⟨w.heap.size, 0, none⟩ (.slice none 0 0)) :=
    ((hb.setCell (p := ⟨w.heap.size + 1, 0, none⟩) (Nat.le_succ _) _).alloc (by simpa using hb.size) _).setCell (p := ⟨w.heap.size, 0, none⟩) (Nat.le_refl _) _
  obtain ⟨W, hW⟩ : ∃ W, (((w4.setCell ⟨w.heap.size + 1, 0, none⟩ (.int .i64 E)).alloc (.cells #[.int .i64 E] 79)).setCell ⟨w.heap.size, 0, none⟩ (.slice none 0 0)) = W := ⟨_, rfl⟩
  rw [hW] at b3 o3 hbb ⊢
  have q1 : W.cell? ⟨w.heap.size + 1, 0, none⟩ = some (.int .i64 E) := b3.cell 0
  have q2 : W.cell? ⟨w.heap.size, 0, none⟩ = some (.slice none 0 0) := o3.cell 0
  have h2' : tmps[2]?.getD undef = .pointer (some ⟨w.heap.size, 0, none⟩) := by simpa using h2
  have h3' : tmps[3]?.getD undef = .pointer (some ⟨w.heap.size + 1, 0, none⟩) := by simpa using h3
  have HBB := Lib.hid hbb
  clear h2 h3 b1 o1 b2 o2 b3 o3 hW hbb hob heb hb hce hfe
  simp [Leaves, settle, results, Tryd.results12, go_sem, h2', h3', q1, q2]
  rw [hR]
  exact ⟨fun h => absurd h hE, fun _ => rfl, HBB.out⟩
theorem readT_caught2 {R : List EvR × Int} {w w4 : World} {eb : Nat} (h1 : w.heap.size + 1 = eb) (E : Int) (hE : E ≠ 0) (hR : R = ([], E)) (hb : Below w.heap.size w w4) (heb : w4.heap[w.heap.size + 1]? = some (.cells #[.int .i64 0] 25 (0, 0)))
    (v : Value) (hob : RowBox w4 w.heap.size #[v] 22) (tmps : Array Value) (h2 : tmps.getD 2 undef = .pointer (some ⟨w.heap.size, 0, none⟩)) (h3 : tmps.getD 3 undef = .pointer (some ⟨eb, 0, none⟩)) :
    Leaves Tryd.prog Tryd.f12 tmps (ReadTPost R w) [{ target := .fn (.func 29) #[.pointer (some ⟨eb, 0, none⟩), .pointer (some ⟨w.heap.size, 0, none⟩)], args := #[] }] (.panicking [{ v := thrownV E, recovered := false }]) w4 := by
  subst h1
  exact readT_caught E hE hR hb heb v hob tmps h2 h3
/-- The end of Read. -/
theorem readT_done {R : List EvR × Int} {w w4 : World} (A : Option Addr) (c : Nat) (hR : R.2 = 0) (hb : Below w.heap.size w w4) (heb : w4.heap[w.heap.size + 1]? = some (.cells #[.int .i64 0] 25 (0, 0)))
    (hob : RowBox w4 w.heap.size #[.slice A R.1.length c] 22) (he : EvsAt w4 A R.1) (tmps : Array Value) (h2 : tmps.getD 2 undef = .pointer (some ⟨w.heap.size, 0, none⟩)) (h3 : tmps.getD 3 undef = .pointer (some ⟨w.heap.size + 1, 0, none⟩)) :
    Leaves Tryd.prog Tryd.f12 tmps (ReadTPost R w) [{ target := .fn (.func 29) #[.pointer (some ⟨w.heap.size + 1, 0, none⟩), .pointer (some ⟨w.heap.size, 0, none⟩)], args := #[] }] .returning w4 := by
  have hce : w4.cell? ⟨w.heap.size + 1, 0, none⟩ = some (.int .i64 0) := by rw [Lib.cell_of_heap heb]; rfl
  refine leaves_cons (f := 29) (args := #[.pointer (some ⟨w.heap.size + 1, 0, none⟩), .pointer (some ⟨w.heap.size, 0, none⟩)]) (by simp) (by simp [go_sem]) ?_
  refine (read1_idle (w.heap.size + 1) w.heap.size w4 hce).mono ?_
  rintro e u' w'' ⟨rfl, rfl, rfl⟩
  have q2 : w4.cell? ⟨w.heap.size, 0, none⟩ = some (.slice A R.1.length c) := hob.cell 0
  have h2' : tmps[2]?.getD undef = .pointer (some ⟨w.heap.size, 0, none⟩) := by simpa using h2
  have h3' : tmps[3]?.getD undef = .pointer (some ⟨w.heap.size + 1, 0, none⟩) := by simpa using h3
  have HX := Lib.hid (And.intro hb he)
  clear h2 h3 hob heb hb he
  simp [Leaves, settle, results, Tryd.results12, go_sem, h2', h3', q2, hce]
  exact ⟨fun _ => ⟨A, c, rfl, HX.out.2⟩, fun h => absurd hR h, HX.out.1⟩

/-- Where a reading of events stands: the boxes, the reader. -/
structure RTS1 (b L : Nat) (w w3 : World) (r : Rd) (wr : World) : Prop where
  rd : RdAt 88 wr b r
  kept : KeptBut b w3 wr
  len : r.l.length ≤ L

set_option maxHeartbeats 8000000 in
set_option maxRecDepth 100000 in
theorem tread_any (s : List UInt8) (hs : s.length ≤ 1000000000) (w : World) (hd : Flds w) (h0 : 0 < w.heap.size) :
    Calls Tryd.prog 12 #[.string (bs s)] w (ReadTPost (readT s) w) := by
  have hmf : ∀ (fn : Fn) (first cap : Array Value) (w : World), (Instr.makeFunc fn first cap).run Tryd.prog w = .ok (.func fn first cap) w := fun _ _ _ _ => rfl
  obtain ⟨S, hS⟩ : ∃ S, bs s = S := ⟨_, rfl⟩
  obtain ⟨w1, hw1⟩ : ∃ W, w.alloc (.cells #[.slice none 0 0] 22) = W := ⟨_, rfl⟩
  have hb1 : Below w.heap.size w w1 := by rw [← hw1]; exact (Below.refl _ _).alloc (Nat.le_refl _) _
  have hz1 : w1.heap.size = w.heap.size + 1 := by rw [← hw1]; simp
  have ho1 : RowBox w1 w.heap.size #[.slice none 0 0] 22 := by rw [← hw1]; exact World.alloc_heap_new _ _
  obtain ⟨w2, hw2⟩ : ∃ W, w1.alloc (.cells #[.int .i64 0] 25) = W := ⟨_, rfl⟩
  have hb2 : Below w1.heap.size w1 w2 := by rw [← hw2]; exact (Below.refl _ _).alloc (Nat.le_refl _) _
  have hz2 : w2.heap.size = w.heap.size + 2 := by rw [← hw2]; simp; omega
  have he2 : w2.heap[w.heap.size + 1]? = some (.cells #[.int .i64 0] 25 (0, 0)) := by rw [← hw2, ← hz1]; exact World.alloc_heap_new _ _
  have ho2 := ho1.below hb2
  obtain ⟨w3, hw3⟩ : ∃ W, w2.alloc (.cells #[.string (bs s), .int .i64 0] 88) = W := ⟨_, rfl⟩
  have hb3 : Below w2.heap.size w2 w3 := by rw [← hw3]; exact (Below.refl _ _).alloc (Nat.le_refl _) _
  have hz3 : w3.heap.size = w.heap.size + 3 := by rw [← hw3]; simp; omega
  have hr3 : RdAt 88 w3 (w.heap.size + 2) ⟨s, 0⟩ := by rw [← hw3, ← hz2]; exact World.alloc_heap_new _ _
  have he3 : w3.heap[w.heap.size + 1]? = some (.cells #[.int .i64 0] 25 (0, 0)) := by rw [hb3.block _ (by omega)]; exact he2
  have ho3 := ho2.below hb3
  have HB3 : Hid (Below w.heap.size w w3) := Lib.hid ((hb1.trans (hb2.mono (by omega))).trans (hb3.mono (by omega)))
  have HD3 : Hid (Flds w3) := Lib.hid (((hd.below hb1).below hb2).below hb3)
  obtain ⟨b, hbb⟩ : ∃ b, w.heap.size + 2 = b := ⟨_, rfl⟩
  rw [hbb] at hr3
  have HBB := Lib.hid hbb
  have HZ3 := Lib.hid hz3
  have HE3 := Lib.hid he3
  have HO3 := Lib.hid ho3
  have HNEW : Hid (Calls Tryd.prog 30 #[.string S] w2 fun v w' => v = .returned (.pointer (some ⟨b, 0, none⟩)) ∧ w3 = w') := Lib.hid (by
    have h := cnew_any (bs s) w2
    rw [hz2, hbb, hw3, hS] at h
    exact h)
  have HNUM := Lib.hid (cnum_any b ⟨s, 0⟩ 400 w3 hr3)
  obtain ⟨N, hN, hN30⟩ := (⟨s, 0⟩ : Rd).num_nat 400
  have hN4 : N ≤ 400 := by have := (⟨s, 0⟩ : Rd).num_le 400 (by omega); omega
  obtain ⟨R0, hR0⟩ : ∃ R0, ((⟨s, 0⟩ : Rd).num 400).2 = R0 := ⟨_, rfl⟩
  obtain ⟨RR, hRR⟩ : ∃ RR, rawLoop N R0 [] = RR := ⟨_, rfl⟩
  have HRM : Hid (readT s = if RR.2.done ≠ 0 then ([], RR.2.done) else wholeLoop RR.1 []) := Lib.hid (by unfold readT; simp only [hN, hR0, Int.toNat_natCast, hRR])
  have HL0 : Hid (R0.l.length ≤ s.length) := Lib.hid (by rw [← hR0]; exact (⟨s, 0⟩ : Rd).num_len 400)
  have HST := Lib.hid hRR
  have HEN : Hid (R0.e ≠ 0 → N = 0) := Lib.hid (by
    rw [← hR0]
    intro he
    unfold Rd.num at he hN
    split at hN
    · simp only at hN; omega
    · split at hN
      · simp only at hN; omega
      · rename_i h1 h2
        rw [if_neg h1, if_neg h2] at he
        simp at he)
  rw [hN, hR0] at HNUM
  obtain ⟨RT, hRT⟩ : ∃ RT, readT s = RT := ⟨_, rfl⟩
  have HRT := Lib.hid hRT
  have HS := Lib.hid hs
  obtain ⟨i0, hi, hz0, hz1', hz2'⟩ := info_parts info_Raw
  have HI := Lib.hid (And.intro hi (And.intro hz0 (And.intro hz1' hz2')))
  obtain ⟨i1, hi, hz0, hz1', hz2'⟩ := info_parts info_Ev
  have HI1 := Lib.hid (And.intro hi (And.intro hz0 (And.intro hz1' hz2')))
  obtain ⟨eb, heb⟩ : ∃ eb, w.heap.size + 1 = eb := ⟨_, rfl⟩
  have HEB := Lib.hid heb
  rw [hS, hRT]
  have hk1 : w.heap.size + 1 = eb := heb
  clear hi hz0 hz1' hz2' hb1 hb2 hb3 hz2 hz3 hr3 he2 he3 ho1 ho2 ho3 hd hN hR0 hRR hRT hS hs hw3 hbb
  go_enter_defers Tryd.func12, Tryd.ntmps12
  go_wp2_with fail
  refine HNEW.out.mono ?_
  rintro e w' ⟨rfl, rfl⟩
  go_wp2_with fail
  refine HNUM.out.mono ?_
  rintro e w4 ⟨rfl, h1, h2⟩
  have HS4 : Hid (RTS1 b s.length w w3 R0 w4) := Lib.hid ⟨h1, h2, HL0.out⟩
  clear h1 h2 hw1 hw2 hz1 hk1 heb
  go_wp2_with fail
  go_loopg [5, 13] N (fun g t5 t13 wr => ∃ (k m : Nat) (A : Option Addr) (c : Nat) (acc : List RawR) (r : Rd), Hid (g = N - k ∧ k ≤ N ∧ acc.length ≤ k) ∧ t13 = .int .i64 k ∧ t5 = .slice A m c ∧ Hid (wr.ownsRow w3.heap.size 68 13 (.slice A m c) m (rawV acc)) ∧ Hid (rawLoop (N - k) r acc = RR ∧ (r.e ≠ 0 → k = N) ∧ ∀ x ∈ acc, x.s.length ≤ s.length) ∧ Hid (RTS1 b s.length w w3 r wr))
  case atStart => exact ⟨0, 0, none, 0, [], R0, ⟨rfl, Nat.zero_le _, Nat.le_refl _⟩, rfl, rfl, World.ownsRow_nil _ _ _ _, ⟨HST.out, fun h => (HEN.out h).symm, fun x hx => by cases hx⟩, HS4.out⟩
  case round =>
    obtain ⟨k, m, A, cc, acc, r, HG, rfl, rfl, HO, HU, HR⟩ := hrel
    have HM : Hid (m = acc.length) := Lib.hid ((raws_own HO.out).1)
    have hk0 : (0 : Int) ≤ k := by omega
    by_cases hlt : k < N
    · have hlt' : (k : Int) < N := by omega
      have he : r.e = 0 := by
        rcases Decidable.em (r.e = 0) with h | h
        · exact h
        · have := HU.out.2.1 h; omega
      have HTK := Lib.hid (ttake_any b s.length r HR.out.len (by have := HS.out; omega) wr HR.out.rd)
      obtain ⟨x, r', hxr⟩ : ∃ x r', takeT r = (x, r') := ⟨_, _, rfl⟩
      have HU2 : Hid (rawLoop (N - (k + 1)) r' (acc ++ [x]) = RR) := Lib.hid (by
        have h := HU.out.1
        rw [show N - k = (N - (k + 1)) + 1 by omega] at h
        unfold rawLoop at h
        rw [if_neg (by simpa using he), hxr] at h
        exact h)
      have HLR : Hid (r'.l.length ≤ s.length ∧ x.s.length ≤ s.length) := Lib.hid (by have h := takeT_len r; rw [hxr] at h; have := HR.out.len; exact ⟨Nat.le_trans h.1 this, Nat.le_trans h.2 this⟩)
      rw [hxr] at HTK
      clear hxr he
      by_cases he' : r'.e = 0
      · have HE' := Lib.hid he'
        obtain ⟨xat, xer, xdp, xdc, xs⟩ := x
        obtain ⟨XS, hXS⟩ : ∃ XS, bs xs = XS := ⟨_, rfl⟩
        have HXS := Lib.hid hXS
        clear he' hXS
        go_wp2_with fail
        refine HTK.out.mono ?_
        rintro e w5 ⟨h1, _, h2⟩
        obtain ⟨rfl, h3⟩ := h1 HE'.out
        have HB5 : Hid (KeptBut b w3 w5) := Lib.hid (HR.out.kept.trans h2)
        have HO2 : Hid (w5.ownsRow w3.heap.size 68 13 (.slice A m cc) m (rawV acc)) := Lib.hid (own_keep HO.out (fun q hq => h2.block q (own_lt' HO.out q hq) (by have := own_ge' HO.out q hq; have := HZ3.out; have := HBB.out; omega)))
        have HRD5 := Lib.hid h3
        simp only [RawR.cells]
        rw [HXS.out]
        have hnew : rawV [(⟨xat, xer, xdp, xdc, xs⟩ : RawR)] = [.int .i64 xat, .int .i64 0, .int .i64 0, .int .i64 0, .int .i64 0, .int .i64 0, .int .i64 0, .string ⟨#[]⟩, .string ⟨#[]⟩, .int .i64 xer, .int .i64 xdp, .int .i64 xdc, .string XS] := by rw [← HXS.out]; rfl
        have HNW := Lib.hid hnew
        clear h1 h2 h3 hnew
        go_wp2_with (at_builtin; refine wpList_append_own _ rfl _ _ 65 rfl w3.heap.size 68 i0 rawZ 13 128 Tryd.underlying65 HI.out.1 HI.out.2.1 HI.out.2.2.1 HI.out.2.2.2 rfl (by decide) (.slice A m cc) m (rawV acc) rfl (HO2.out.alloc _) _ 1 1 [.int .i64 xat, .int .i64 0, .int .i64 0, .int .i64 0, .int .i64 0, .int .i64 0, .int .i64 0, .string ⟨#[]⟩, .string ⟨#[]⟩, .int .i64 xer, .int .i64 xdp, .int .i64 xdc, .string XS] rfl rfl (cells_new w5 _ _) (by rw [← HNW.out]; exact rowV_one _ RawR.one _) (by have := HG.out; have := HM.out; unfold maxLen; omega) (by have := HG.out; have := HM.out; omega) (by have := HB5.out.size; simp; omega) ?_; intro v' w6 hown' hgrow hnil)
        obtain ⟨A4, c4, hv⟩ := own_shape hown'
        subst hv
        have HO3 : Hid (w6.ownsRow w3.heap.size 68 13 (.slice A4 (m + 1) c4) (m + 1) (rawV (acc ++ [⟨xat, xer, xdp, xdc, xs⟩]))) := by rw [show rawV (acc ++ [(⟨xat, xer, xdp, xdc, xs⟩ : RawR)]) = rawV acc ++ rawV [⟨xat, xer, xdp, xdc, xs⟩] from rowV_append _ _ _, HNW.out]; exact hown'
        have HRS : Hid (RTS1 b s.length w w3 r' w6) := Lib.hid (by
          have hg0 : ∀ q, q < w3.heap.size → w6.heap[q]? = w5.heap[q]? := fun q hq => by
            rw [hgrow.block q (by have := HB5.out.size; simp; omega) (fun e => by have := own_ge' HO2.out q e.symm; omega)]
            exact Below.heap_alloc _ _ _ (Nat.lt_of_lt_of_le hq HB5.out.size)
          exact ⟨HRD5.out.of_block (hg0 _ (by have := HZ3.out; have := HBB.out; omega)), (HB5.out.alloc _).grown hgrow (fun q e => own_ge' HO2.out q e), HLR.out.1⟩)
        clear hown' hgrow hnil
        go_wp2_with fail
        go_roundg (N - (k + 1))
        case rel => exact ⟨k + 1, m + 1, A4, c4, acc ++ [⟨xat, xer, xdp, xdc, xs⟩], r', ⟨rfl, hlt, by have := HG.out; simp; omega⟩, by go_num, rfl, HO3, ⟨HU2.out, fun h => absurd HE'.out h, fun y hy => by
          rcases List.mem_append.1 hy with h | h
          · exact HU.out.2.2 y h
          · obtain rfl : y = ⟨xat, xer, xdp, xdc, xs⟩ := by simpa using h
            exact HLR.out.2⟩, HRS⟩
        case measure => have := HG.out; omega
      · have HE' := Lib.hid he'
        have HRTE : Hid (RT = ([], r'.e)) := Lib.hid (by
          have h := HU2.out
          rw [rawLoop_stop _ _ he'] at h
          rw [← HRT.out, HRM.out, ← h]
          simp only
          rw [Rd.done_stop _ he', if_pos he'])
        clear he'
        go_wp2_with fail
        refine HTK.out.mono ?_
        rintro e w5 ⟨_, h1, h2⟩
        obtain rfl := h1 HE'.out
        have HB5 : Hid (KeptBut b w3 w5) := Lib.hid (HR.out.kept.trans h2)
        clear h1 h2
        go_wp2_with fail
        have e1 := HEB.out
        subst e1
        refine readT_caught r'.e HE'.out HRTE.out (HB3.out.trans (HB5.out.below (by have := HBB.out; omega) HB3.out.size)) ?_ (.slice none 0 0) ?_ _ rfl rfl
        · rw [HB5.out.block _ (by have := HZ3.out; omega) (by have := HBB.out; omega)]; exact HE3.out
        · exact HO3.out.of_block (HB5.out.block _ (by have := HZ3.out; omega) (by have := HBB.out; omega))
    · have hlt' : ¬ (k : Int) < N := by omega
      have HRRE : Hid (RR = (acc, r)) := Lib.hid (by
        have h := HU.out.1
        rw [show N - k = 0 by omega] at h
        exact h.symm)
      have HDN := Lib.hid (cdone_any b (bs r.l) r.e wr HR.out.rd)
      rw [rdoneM_eq] at HDN
      obtain ⟨D, hD⟩ : ∃ D, r.done = D := ⟨_, rfl⟩
      rw [hD] at HDN
      have HDD : Hid (RT = if D ≠ 0 then ([], D) else wholeLoop acc []) := Lib.hid (by rw [← HRT.out, HRM.out, HRRE.out]; simp only [hD])
      clear hD
      by_cases hd0 : D = 0
      · subst hd0
        have HRW : Hid (RT = wholeLoop acc []) := Lib.hid (by rw [HDD.out, if_neg (by simp)])
        go_wp2_with fail
        refine HDN.out.mono ?_
        rintro e w5 ⟨rfl, rfl⟩
        go_wp2_with fail
        refine (need_ok wr).mono ?_
        rintro e w6 ⟨rfl, rfl⟩
        obtain ⟨wo, hwo⟩ : ∃ wo : World, wo = wr := ⟨_, rfl⟩
        subst hwo
        have HOB0 : Hid (RowBox wo w.heap.size #[.slice none 0 0] 22) := Lib.hid (HO3.out.of_block (HR.out.kept.block _ (by have := HZ3.out; omega) (by have := HBB.out; omega)))
        have HEB0 : Hid (wo.heap[w.heap.size + 1]? = some (.cells #[.int .i64 0] 25 (0, 0))) := Lib.hid (by rw [HR.out.kept.block _ (by have := HZ3.out; omega) (by have := HBB.out; omega)]; exact HE3.out)
        have HFL0 : Hid (Flds wo) := Lib.hid (HD3.out.of_block (HR.out.kept.block 0 (by have := HZ3.out; omega) (by have := HBB.out; omega)))
        have HBW0 : Hid (Below w.heap.size w wo) := Lib.hid (HB3.out.trans (HR.out.kept.below (by have := HBB.out; omega) HB3.out.size))
        have HSZ0 : Hid (w.heap.size + 3 ≤ wo.heap.size) := Lib.hid (by have := HR.out.kept.size; have := HZ3.out; omega)
        have hm4 : m ≤ 400 := by have := HM.out; have := HG.out; omega
        clear hlt hlt' hk0
        go_wp2_with fail
        go_loopg [7, 26] m (fun g t7 t26 wr => ∃ (i m2 : Nat) (A2 : Option Addr) (c2 : Nat) (acc2 : List EvR), Hid (g = m - i ∧ i ≤ m ∧ acc2.length = i) ∧ t26 = .int .i64 i ∧ Hid (wr.ownsRow wo.heap.size 34 12 (.slice A2 m2 c2) m2 (evV acc2)) ∧ Hid (RowBox wr w.heap.size #[.slice A2 m2 c2] 22) ∧ Hid (KeptBut w.heap.size wo wr) ∧ Hid (wholeLoop (acc.drop i) acc2 = RT))
        case atStart => exact ⟨0, 0, none, 0, [], ⟨rfl, Nat.zero_le _, rfl⟩, rfl, World.ownsRow_nil _ _ _ _, HOB0.out, KeptBut.refl _ _, HRW.out.symm⟩
        case round =>
          obtain ⟨i, m2, A2, c2, acc2, HG2, rfl, HO2, HOB, HKB, HWL⟩ := hrel
          have HM2 : Hid (m2 = acc2.length) := Lib.hid ((evs_own HO2.out).1)
          have hi0 : (0 : Int) ≤ i := by omega
          have HFLr : Hid (Flds wr) := Lib.hid (HFL0.out.of_block (HKB.out.block 0 (by have := HSZ0.out; omega) (by omega)))
          have HBWr : Hid (Below w.heap.size w wr) := Lib.hid (HBW0.out.trans (HKB.out.below (Nat.le_refl _) HBW0.out.size))
          have HEBr : Hid (wr.heap[w.heap.size + 1]? = some (.cells #[.int .i64 0] 25 (0, 0))) := Lib.hid (by rw [HKB.out.block _ (by have := HSZ0.out; omega) (by omega)]; exact HEB0.out)
          by_cases hit : i < m
          · have hit' : (i : Int) < m := by omega
            have hia : i < acc.length := by have := HM.out; omega
            obtain ⟨g, rfl, hg, hc13⟩ := (raws_own HO.out).2 i hia
            have hgl : g < wo.heap.size := own_lt' HO.out g rfl
            have hc13' := hc13.of_block (w' := wr) (by rw [addr_at]; exact HKB.out.block g hgl (by have := HZ3.out; omega))
            obtain ⟨x, hx⟩ : ∃ x, acc[i]'hia = x := ⟨_, rfl⟩
            rw [hx, addr_at] at hc13'
            have hxl := HU.out.2.2 x (by rw [← hx]; exact List.getElem_mem _)
            have HWH : Hid (∀ W', Below wr.heap.size wr W' → Calls Tryd.prog 35 #[.agg x.cells] W' (WholePost (wholeM x) W')) := Lib.hid fun W' hb =>
              whole_any x (by have := HS.out; omega) W' (HFLr.out.below hb) (by have := hb.size; have := HBWr.out.size; omega)
            obtain ⟨ev, E, hWM⟩ : ∃ ev E, wholeM x = (ev, E) := ⟨_, _, rfl⟩
            have HWL2 : Hid ((if E ≠ 0 then ([], E) else wholeLoop (acc.drop (i + 1)) (acc2 ++ [ev])) = RT) := Lib.hid (by
              have h := HWL.out
              rw [List.drop_eq_getElem_cons hia, hx] at h
              unfold wholeLoop at h
              rw [hWM] at h
              exact h)
            rw [hWM] at HWH
            obtain ⟨xat, xer, xdp, xdc, xs⟩ := x
            obtain ⟨XS, hXS⟩ : ∃ XS, bs xs = XS := ⟨_, rfl⟩
            simp only [RawR.cells] at HWH
            rw [hXS] at HWH
            obtain ⟨d0, d1, d2, d3, d4, d5, d6, d7, d8, d9, d10, d11, d12⟩ := hc13'
            simp only at d0 d1 d2 d3 d4 d5 d6 d7 d8 d9 d10 d11 d12
            rw [hXS] at d12
            have HGG := Lib.hid (And.intro hg hgl)
            clear hc13 hx hxl hWM hXS hg hgl
            by_cases hE : E = 0
            · have HE0 := Lib.hid hE
              subst hE
              have HWL3 : Hid (wholeLoop (acc.drop (i + 1)) (acc2 ++ [ev]) = RT) := Lib.hid (by have h := HWL2.out; rw [if_neg (by simp)] at h; exact h)
              obtain ⟨eat, ⟨ek, ep, et, en, ea, em, eu, ev'⟩, eer, edp, edc⟩ := ev
              have HWH2 : Hid (∀ W', Below wr.heap.size wr W' → Calls Tryd.prog 35 #[.agg #[.int .i64 xat, .int .i64 0, .int .i64 0, .int .i64 0, .int .i64 0, .int .i64 0, .int .i64 0, .string ⟨#[]⟩, .string ⟨#[]⟩, .int .i64 xer, .int .i64 xdp, .int .i64 xdc, .string XS]] W' fun e w' => e = .returned (.agg #[.int .i64 eat, .int .i64 ek, .int .i64 ep, .int .i64 et, .int .i64 en, .int .i64 ea, .int .i64 em, .string eu, .string ev', .int .i64 eer, .int .i64 edp, .int .i64 edc]) ∧ Below W'.heap.size W' w') := Lib.hid fun W' hb => (HWH.out W' hb).mono fun e w' h => ⟨h.1 rfl, h.2.2⟩
              clear HWL2 HWH
              go_wp2_with fail
              clear d0 d1 d2 d3 d4 d5 d6 d7 d8 d9 d10 d11 d12
              have hbx : Below wr.heap.size wr (wr.alloc (.cells #[.int .i64 xat, .int .i64 0, .int .i64 0, .int .i64 0, .int .i64 0, .int .i64 0, .int .i64 0, .string ⟨#[]⟩, .string ⟨#[]⟩, .int .i64 xer, .int .i64 xdp, .int .i64 xdc, .string XS] 68)) := (Below.refl _ _).alloc (Nat.le_refl _) _
              have hxbx : RowBox (wr.alloc (.cells #[.int .i64 xat, .int .i64 0, .int .i64 0, .int .i64 0, .int .i64 0, .int .i64 0, .int .i64 0, .string ⟨#[]⟩, .string ⟨#[]⟩, .int .i64 xer, .int .i64 xdp, .int .i64 xdc, .string XS] 68)) wr.heap.size #[.int .i64 xat, .int .i64 0, .int .i64 0, .int .i64 0, .int .i64 0, .int .i64 0, .int .i64 0, .string ⟨#[]⟩, .string ⟨#[]⟩, .int .i64 xer, .int .i64 xdp, .int .i64 xdc, .string XS] 68 := World.alloc_heap_new _ _
              obtain ⟨Wx, hWx⟩ : ∃ W, (wr.alloc (.cells #[.int .i64 xat, .int .i64 0, .int .i64 0, .int .i64 0, .int .i64 0, .int .i64 0, .int .i64 0, .string ⟨#[]⟩, .string ⟨#[]⟩, .int .i64 xer, .int .i64 xdp, .int .i64 xdc, .string XS] 68)) = W := ⟨_, rfl⟩
              rw [hWx] at hbx hxbx ⊢
              have HBX := Lib.hid hbx
              have HOBX : Hid (∀ W', Below wr.heap.size wr W' → RowBox W' w.heap.size #[.slice A2 m2 c2] 22) := Lib.hid fun W' hb => HOB.out.below hb
              have hobx := HOBX.out Wx hbx
              have o0 : Wx.cell? ⟨w.heap.size, 0, none⟩ = some (.slice A2 m2 c2) := hobx.cell 0
              have o1 := hobx.frozen 0
              have x0 := hxbx.cell 0
              have x1 := hxbx.cell 1
              have x2 := hxbx.cell 2
              have x3 := hxbx.cell 3
              have x4 := hxbx.cell 4
              have x5 := hxbx.cell 5
              have x6 := hxbx.cell 6
              have x7 := hxbx.cell 7
              have x8 := hxbx.cell 8
              have x9 := hxbx.cell 9
              have x10 := hxbx.cell 10
              have x11 := hxbx.cell 11
              have x12 := hxbx.cell 12
              simp only [List.getElem?_toArray, List.getElem?_cons_zero, List.getElem?_cons_succ] at x0 x1 x2 x3 x4 x5 x6 x7 x8 x9 x10 x11 x12
              have hent1 := enters_of Tryd.func35 (by kernel_rfl) rfl
              have E1 := Lib.hid hent1
              clear hent1 hbx hxbx hWx hobx
              go_region_law (first
                | (refine step_call rfl 35 _ _ rfl E1.out #[.agg #[.int .i64 xat, .int .i64 0, .int .i64 0, .int .i64 0, .int .i64 0, .int .i64 0, .int .i64 0, .string ⟨#[]⟩, .string ⟨#[]⟩, .int .i64 xer, .int .i64 xdp, .int .i64 xdc, .string XS]] (by simp [Act.eval, Act.put]) (HWH2.out _ HBX.out.drew) ?_; rintro e w1 ⟨h1, hb⟩; refine ⟨_, h1, ?_⟩; clear h1; have HB1 := Lib.hid (HBX.out.drew.trans (hb.mono HBX.out.size)); have hob1 := HOBX.out w1 HB1.out; have p0 : w1.cell? ⟨w.heap.size, 0, none⟩ = some (.slice A2 m2 c2) := hob1.cell 0; have p1 := hob1.frozen 0; have p2 : (w1.alloc (.cells #[.int .i64 eat, .int .i64 ek, .int .i64 ep, .int .i64 et, .int .i64 en, .int .i64 ea, .int .i64 em, .string eu, .string ev', .int .i64 eer, .int .i64 edp, .int .i64 edc] 34)).cell? ⟨w.heap.size, 0, none⟩ = some (.slice A2 m2 c2) := (hob1.below ((Below.refl _ _).alloc (Nat.le_refl _) _)).cell 0; clear hob1 hb; have HO3 := Lib.hid (own_keep HO2.out (fun q hq => HB1.out.block q (own_lt' HO2.out q hq))))
                | (refine step_append_lies _ rfl _ _ 22 rfl wo.heap.size 34 i1 evZ 12 112 Tryd.underlying22 HI1.out.1 HI1.out.2.1 HI1.out.2.2.1 HI1.out.2.2.2 rfl (by decide) (.slice A2 m2 c2) m2 (evV acc2) (by simp [Act.eval, Act.put]) (HO3.out.alloc _) ⟨w1.heap.size, 0, none⟩ 1 1 [.int .i64 eat, .int .i64 ek, .int .i64 ep, .int .i64 et, .int .i64 en, .int .i64 ea, .int .i64 em, .string eu, .string ev', .int .i64 eer, .int .i64 edp, .int .i64 edc] (by simp [Act.eval, Act.put]) rfl (cells_new w1 _ _) (rowV_one _ EvR.one [⟨eat, ⟨ek, ep, et, en, ea, em, eu, ev'⟩, eer, edp, edc⟩]) (by decide) (by have := HG2.out; have := HM2.out; unfold maxLen; omega) (by have := HG2.out; have := HM2.out; omega) (by have := HB1.out.size; have := HKB.out.size; simp; omega) _ rfl ?_; intro g5 c5 w5 hown5 hgr5 hlies5 hlt5; have HG5 := Lib.hid hgr5; have HO5 := Lib.hid hown5; have hob5 : RowBox w5 w.heap.size #[.slice A2 m2 c2] 22 := ((HOBX.out w1 HB1.out).below ((Below.refl _ _).alloc (Nat.le_refl _) _)).of_block (HG5.out.block _ (by have := HB1.out.size; have := HBWr.out.size; have := HKB.out.size; have := HSZ0.out; simp; omega) (fun e => by have := own_ge' HO3.out _ e.symm; have := HSZ0.out; omega)); have s0 : w5.cell? ⟨w.heap.size, 0, none⟩ = some (.slice A2 m2 c2) := hob5.cell 0; have s1 := hob5.frozen 0; have HOB5 := Lib.hid hob5; clear hown5 hgr5 hlies5 hlt5 hob5))
              all_goals
                have HO6 : Hid ((w5.setCell ⟨w.heap.size, 0, none⟩ (.slice (some ⟨g5, 0, none⟩) (m2 + 1) c5)).ownsRow wo.heap.size 34 12 (.slice (some ⟨g5, 0, none⟩) (m2 + 1) c5) (m2 + 1) (evV (acc2 ++ [⟨eat, ⟨ek, ep, et, en, ea, em, eu, ev'⟩, eer, edp, edc⟩]))) := Lib.hid (by
                  rw [show evV (acc2 ++ [(⟨eat, ⟨ek, ep, et, en, ea, em, eu, ev'⟩, eer, edp, edc⟩ : EvR)]) = evV acc2 ++ evV [⟨eat, ⟨ek, ep, et, en, ea, em, eu, ev'⟩, eer, edp, edc⟩] from rowV_append _ _ _]
                  refine own_keep HO5.out (fun q hq => heap_set_ne ?_)
                  have := own_ge' HO5.out q hq
                  have := HSZ0.out
                  show q ≠ w.heap.size
                  omega)
                have HOB6 : Hid (RowBox (w5.setCell ⟨w.heap.size, 0, none⟩ (.slice (some ⟨g5, 0, none⟩) (m2 + 1) c5)) w.heap.size #[.slice (some ⟨g5, 0, none⟩) (m2 + 1) c5] 22) := Lib.hid (HOB5.out.set 0 _ rfl)
                have HKB6 : Hid (KeptBut w.heap.size wo (w5.setCell ⟨w.heap.size, 0, none⟩ (.slice (some ⟨g5, 0, none⟩) (m2 + 1) c5))) := Lib.hid (((((HKB.out.trans (KeptBut.of_below HB1.out)).alloc _).grown HG5.out (fun q e => own_ge' HO3.out q e))).trans (KeptBut.set _ _ _ _))
                clear x0 x1 x2 x3 x4 x5 x6 x7 x8 x9 x10 x11 x12
                go_wp2_with fail
                go_roundg (m - (i + 1))
                case rel => exact ⟨i + 1, m2 + 1, some ⟨g5, 0, none⟩, c5, acc2 ++ [⟨eat, ⟨ek, ep, et, en, ea, em, eu, ev'⟩, eer, edp, edc⟩], ⟨rfl, hit, by have := HG2.out; simp; omega⟩, by go_num, HO6, HOB6, HKB6, HWL3⟩
                case measure => have := HG2.out; omega
            · have HE0 := Lib.hid hE
              have HRTE : Hid (RT = ([], E)) := Lib.hid (by have h := HWL2.out; rw [if_pos hE] at h; exact h.symm)
              have HWH2 : Hid (∀ W', Below wr.heap.size wr W' → Calls Tryd.prog 35 #[.agg #[.int .i64 xat, .int .i64 0, .int .i64 0, .int .i64 0, .int .i64 0, .int .i64 0, .int .i64 0, .string ⟨#[]⟩, .string ⟨#[]⟩, .int .i64 xer, .int .i64 xdp, .int .i64 xdc, .string XS]] W' fun e w' => e = .panicked [{ v := thrownV E, recovered := false }] ∧ Below W'.heap.size W' w') := Lib.hid fun W' hb => (HWH.out W' hb).mono fun e w' h => ⟨h.2.1 HE0.out, h.2.2⟩
              clear HWL2 HWH hE
              go_wp2_with fail
              clear d0 d1 d2 d3 d4 d5 d6 d7 d8 d9 d10 d11 d12
              have hbx : Below wr.heap.size wr (wr.alloc (.cells #[.int .i64 xat, .int .i64 0, .int .i64 0, .int .i64 0, .int .i64 0, .int .i64 0, .int .i64 0, .string ⟨#[]⟩, .string ⟨#[]⟩, .int .i64 xer, .int .i64 xdp, .int .i64 xdc, .string XS] 68)) := (Below.refl _ _).alloc (Nat.le_refl _) _
              have hxbx : RowBox (wr.alloc (.cells #[.int .i64 xat, .int .i64 0, .int .i64 0, .int .i64 0, .int .i64 0, .int .i64 0, .int .i64 0, .string ⟨#[]⟩, .string ⟨#[]⟩, .int .i64 xer, .int .i64 xdp, .int .i64 xdc, .string XS] 68)) wr.heap.size #[.int .i64 xat, .int .i64 0, .int .i64 0, .int .i64 0, .int .i64 0, .int .i64 0, .int .i64 0, .string ⟨#[]⟩, .string ⟨#[]⟩, .int .i64 xer, .int .i64 xdp, .int .i64 xdc, .string XS] 68 := World.alloc_heap_new _ _
              obtain ⟨Wx, hWx⟩ : ∃ W, (wr.alloc (.cells #[.int .i64 xat, .int .i64 0, .int .i64 0, .int .i64 0, .int .i64 0, .int .i64 0, .int .i64 0, .string ⟨#[]⟩, .string ⟨#[]⟩, .int .i64 xer, .int .i64 xdp, .int .i64 xdc, .string XS] 68)) = W := ⟨_, rfl⟩
              rw [hWx] at hbx hxbx ⊢
              have HBX := Lib.hid hbx
              have hobx := HOB.out.below hbx
              have o0 : Wx.cell? ⟨w.heap.size, 0, none⟩ = some (.slice A2 m2 c2) := hobx.cell 0
              have o1 := hobx.frozen 0
              have x0 := hxbx.cell 0
              have x1 := hxbx.cell 1
              have x2 := hxbx.cell 2
              have x3 := hxbx.cell 3
              have x4 := hxbx.cell 4
              have x5 := hxbx.cell 5
              have x6 := hxbx.cell 6
              have x7 := hxbx.cell 7
              have x8 := hxbx.cell 8
              have x9 := hxbx.cell 9
              have x10 := hxbx.cell 10
              have x11 := hxbx.cell 11
              have x12 := hxbx.cell 12
              simp only [List.getElem?_toArray, List.getElem?_cons_zero, List.getElem?_cons_succ] at x0 x1 x2 x3 x4 x5 x6 x7 x8 x9 x10 x11 x12
              clear hbx hxbx hWx hobx
              refine wp_region_any (by kernel_rfl) ?_
              change wpAny _ _ _ _ _ _ _ (World.drew _)
              refine wpAny_ready (rs := [0, 1]) (by kernel_rfl) (by simp) ?_
              refine AllReady.cons (o := _) rfl (fun K hK => ?_) (AllReady.cons (o := _) rfl (fun K hK => ?_) AllReady.nil)
              · skip
                go_simp
                refine hK _ _ ?_
                clear hK K
                try simp only [Act.put, List.setIfInBounds_toArray, List.set_cons_zero, List.set_cons_succ, List.getElem_toArray, List.getElem_cons_zero, List.getElem_cons_succ]
                refine wpAny_ready (rs := [1]) (by kernel_rfl) (by simp) ?_
                refine AllReady.cons (o := _) rfl (fun K hK => ?_) AllReady.nil
                go_simp
                refine hK _ _ ?_
                clear hK K
                try simp only [Act.put, List.setIfInBounds_toArray, List.set_cons_zero, List.set_cons_succ, List.getElem_toArray, List.getElem_cons_zero, List.getElem_cons_succ]
                refine wpAny_ready (rs := [2]) (by kernel_rfl) (by simp) ?_
                refine AllReady.cons (o := _) rfl (fun K hK => ?_) AllReady.nil
                go_simp
                refine (HWH2.out _ HBX.out.drew).mono ?_
                rintro e w5 ⟨rfl, hb5⟩
                go_wp2_with fail
                exact readT_caught2 HEB.out E HE0.out HRTE.out (HBWr.out.trans ((HBX.out.drew.trans (hb5.mono HBX.out.size)).mono HBWr.out.size)) (by rw [(HBX.out.drew.trans (hb5.mono HBX.out.size)).block _ (by have := HKB.out.size; have := HSZ0.out; omega)]; exact HEBr.out) (.slice A2 m2 c2) (HOB.out.below (HBX.out.drew.trans (hb5.mono HBX.out.size))) _ rfl rfl
              · skip
                go_simp
                refine hK _ _ ?_
                clear hK K
                try simp only [Act.put, List.setIfInBounds_toArray, List.set_cons_zero, List.set_cons_succ, List.getElem_toArray, List.getElem_cons_zero, List.getElem_cons_succ]
                refine wpAny_ready (rs := [0, 2]) (by kernel_rfl) (by simp) ?_
                refine AllReady.cons (o := _) rfl (fun K hK => ?_) (AllReady.cons (o := _) rfl (fun K hK => ?_) AllReady.nil)
                · skip
                  go_simp
                  refine hK _ _ ?_
                  clear hK K
                  try simp only [Act.put, List.setIfInBounds_toArray, List.set_cons_zero, List.set_cons_succ, List.getElem_toArray, List.getElem_cons_zero, List.getElem_cons_succ]
                  refine wpAny_ready (rs := [2]) (by kernel_rfl) (by simp) ?_
                  refine AllReady.cons (o := _) rfl (fun K hK => ?_) AllReady.nil
                  go_simp
                  refine (HWH2.out _ HBX.out.drew).mono ?_
                  rintro e w5 ⟨rfl, hb5⟩
                  go_wp2_with fail
                  exact readT_caught2 HEB.out E HE0.out HRTE.out (HBWr.out.trans ((HBX.out.drew.trans (hb5.mono HBX.out.size)).mono HBWr.out.size)) (by rw [(HBX.out.drew.trans (hb5.mono HBX.out.size)).block _ (by have := HKB.out.size; have := HSZ0.out; omega)]; exact HEBr.out) (.slice A2 m2 c2) (HOB.out.below (HBX.out.drew.trans (hb5.mono HBX.out.size))) _ rfl rfl
                · skip
                  go_simp
                  refine (HWH2.out _ HBX.out.drew).mono ?_
                  rintro e w5 ⟨rfl, hb5⟩
                  go_wp2_with fail
                  exact readT_caught2 HEB.out E HE0.out HRTE.out (HBWr.out.trans ((HBX.out.drew.trans (hb5.mono HBX.out.size)).mono HBWr.out.size)) (by rw [(HBX.out.drew.trans (hb5.mono HBX.out.size)).block _ (by have := HKB.out.size; have := HSZ0.out; omega)]; exact HEBr.out) (.slice A2 m2 c2) (HOB.out.below (HBX.out.drew.trans (hb5.mono HBX.out.size))) _ rfl rfl
          · obtain rfl : i = m := by have := HG2.out; omega
            have HDW : Hid (RT = (acc2, 0)) := Lib.hid (by
              have h := HWL.out
              rw [List.drop_eq_nil_of_le (by have := HM.out; omega)] at h
              exact h.symm)
            have hob := HOB.out
            have o0 : wr.cell? ⟨w.heap.size, 0, none⟩ = some (.slice A2 m2 c2) := hob.cell 0
            have o1 := hob.frozen 0
            have heb : RowBox wr (w.heap.size + 1) #[.int .i64 0] 25 := HEBr.out
            rw [HEB.out] at heb
            have q0 : wr.cell? ⟨eb, 0, none⟩ = some (.int .i64 0) := heb.cell 0
            have q1 := heb.frozen 0
            have hne : ¬ eb = w.heap.size := by have := HEB.out; omega
            have hne2 : ¬ w.heap.size = eb := by have := HEB.out; omega
            clear hob heb
            go_wp2_with fail
            have e1 := HEB.out
            subst e1
            have hob6 := (HOB.out.set (cs' := #[.slice A2 m2 c2]) 0 (.slice A2 m2 c2) rfl).set_ne (p := ⟨w.heap.size + 1, 0, none⟩) (by show w.heap.size ≠ w.heap.size + 1; omega) (.int .i64 0)
            have heb6 : RowBox ((wr.setCell ⟨w.heap.size, 0, none⟩ (.slice A2 m2 c2)).setCell ⟨w.heap.size + 1, 0, none⟩ (.int .i64 0)) (w.heap.size + 1) #[.int .i64 0] 25 := (RowBox.set_ne (cs := #[.int .i64 0]) (T := 25) HEBr.out (p := ⟨w.heap.size, 0, none⟩) (by show w.heap.size + 1 ≠ w.heap.size; omega) (.slice A2 m2 c2)).set 0 (.int .i64 0) rfl
            have hown6 : ((wr.setCell ⟨w.heap.size, 0, none⟩ (.slice A2 m2 c2)).setCell ⟨w.heap.size + 1, 0, none⟩ (.int .i64 0)).ownsRow wo.heap.size 34 12 (.slice A2 m2 c2) m2 (evV acc2) := own_keep HO2.out (fun q hq => by
              have h1 := own_ge' HO2.out q hq
              have h2 := HSZ0.out
              rw [heap_set_ne (by show q ≠ w.heap.size + 1; omega), heap_set_ne (by show q ≠ w.heap.size; omega)])
            have hml : m2 = RT.1.length := by rw [HDW.out]; exact HM2.out
            have hev6 : EvsAt ((wr.setCell ⟨w.heap.size, 0, none⟩ (.slice A2 m2 c2)).setCell ⟨w.heap.size + 1, 0, none⟩ (.int .i64 0)) A2 RT.1 := by rw [HDW.out]; exact (evs_own hown6).2
            refine readT_done (R := RT) A2 c2 (by rw [HDW.out]) ((HBWr.out.setCell (p := ⟨w.heap.size, 0, none⟩) (Nat.le_refl _) _).setCell (p := ⟨w.heap.size + 1, 0, none⟩) (Nat.le_succ _) _) heb6 ?_ hev6 _ rfl rfl
            rw [← hml]
            exact hob6
      · have HD0 := Lib.hid hd0
        have HRTE : Hid (RT = ([], D)) := Lib.hid (by rw [HDD.out, if_pos hd0])
        go_wp2_with fail
        refine HDN.out.mono ?_
        rintro e w5 ⟨rfl, rfl⟩
        go_wp2_with fail
        refine (need_bad D hd0 wr).mono ?_
        rintro e w6 ⟨rfl, rfl⟩
        clear hd0
        go_wp2_with fail
        have e1 := HEB.out
        subst e1
        refine readT_caught D HD0.out HRTE.out (HB3.out.trans (HR.out.kept.below (by have := HBB.out; omega) HB3.out.size)) ?_ (.slice none 0 0) ?_ _ rfl rfl
        · rw [HR.out.kept.block _ (by have := HZ3.out; omega) (by have := HBB.out; omega)]; exact HE3.out
        · exact HO3.out.of_block (HR.out.kept.block _ (by have := HZ3.out; omega) (by have := HBB.out; omega))
end Go.Proofs.YtjmfdacnaodfdaaDoor
