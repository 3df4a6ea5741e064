/- LinkPlays: one operation, on the net and in the document. -/
import Derived.Test.YtnnmhpplmihidaaPlaysRef
import Derived.Test.YtnnmhpplmihidaaRefBend
import Derived.Test.YtnnmhpplmihidaaNetNext
namespace Go.Proofs.Ytnnmhpplmihidaa
set_option linter.unusedVariables false
set_option linter.unusedSimpArgs false
open PLinkPlays Go.RowKit Go.Proofs.YtnnmhpplmihidaaW.PrintWords

section
variable {w wr : World} {g mb Bm X : Nat} {P : Int} {L : Int × Int → List Fr} {M : List RF} {vm : Value}

theorem PlaysAt.mono (h : PlaysAt w wr g mb Bm P L M vm) {w2 : World} (hb : Below wr.heap.size wr w2) : PlaysAt w w2 g mb Bm P L M vm := by
  obtain ⟨O, m, hn, hf⟩ := h.after hb
  exact (hf L w2 (NetStep.same hn (Below.refl _ _))).1

/-- The document's row, and the value that holds it, behind one of its operations. -/
theorem RefOk.at_ {w3 w4 : World} {L1 : Int × Int → List Fr} {n : Nat} {v' : Value} (h : PlaysAt w w3 g mb Bm P L1 M vm) (hr : RefOk w w3 P vm L1 n v' w4) :
    w4.heap[Bm]? = some (.cells #[.int .i64 P, vm] 60 (0, 0)) ∧
    ∃ M', PlaysAt w ((w4.setCell ⟨Bm, 0, none⟩ (.int .i64 P)).setCell ⟨Bm, 1, none⟩ v') g mb Bm P L1 M' v' ∧ Ok P M' L1 n ∧
      ∀ k, k < w3.heap.size → k ≠ Bm → vm.ownBlock ≠ some k → ((w4.setCell ⟨Bm, 0, none⟩ (.int .i64 P)).setCell ⟨Bm, 1, none⟩ v').heap[k]? = w3.heap[k]? := by
  obtain ⟨M', h1, h2, h3, h4, h5, h6⟩ := hr
  refine ⟨(h6 Bm h.lt (fun e => h.ne Bm e rfl)).trans h.box, M', h.ref h5 h6 h4 h1 h2, h3, fun k hk hkB hv => ?_⟩
  rw [Below.heap_setCell _ _ _ _ (by simpa using hkB), Below.heap_setCell _ _ _ _ (by simpa using hkB)]
  exact h6 k hk hv

theorem refRet_ok {n : Nat} (hB : Below w.heap.size w wr) {L' : Int × Int → List Fr} {e : Ending} {w4 : World} {r : Int} (h : RefRet wr w.heap.size P vm L' n e w4 r) : ∃ v', e = .returned (.tuple #[.agg #[.int .i64 P, v'], .int .i64 r]) ∧ RefOk w wr P vm L' n v' w4 := by
  obtain ⟨v', M', rfl, h1, h2, h3, h4⟩ := h
  refine ⟨v', rfl, M', h1, fun k hk => ?_, h3, hB.trans (h4.mono hB.size), h4.size, fun k hk _ => h4.block k hk⟩
  rcases h2 with rfl | h2
  · exact .inl hk
  · exact .inr (h2 k hk)

theorem twice_ok {n : Nat} (hB : Below w.heap.size w wr) (hrow : wr.ownsRow w.heap.size 52 4 vm M.length (rfCells M)) (h : Ok P M L n) (hn : n < 999) (a b i : Int) (hi : i < 9223372036854775808) :
    Calls Try.prog 35 #[.agg #[.int .i64 P, vm], .int .i64 a, .int .i64 b, .int .i64 i] wr fun e w4 => ∃ v', e = .returned (.tuple #[.agg #[.int .i64 P, v'], .int .i64 (twiceM P L a b i).1]) ∧ RefOk w wr P vm (twiceM P L a b i).2 (n + 1) v' w4 := by
  obtain ⟨A, c, rfl⟩ := own_shape hrow
  exact (twice_ref wr w.heap.size hB.size h hn A c hrow a b i hi).mono fun e w4 h4 => refRet_ok hB h4

theorem bend_ok {n : Nat} (hB : Below w.heap.size w wr) (hrow : wr.ownsRow w.heap.size 52 4 vm M.length (rfCells M)) (h : Ok P M L n) (hn : n < 999) (a b i : Int) (hi : i < 9223372036854775808) (at_ : Int) (mask : Nat) (hmask : mask < 4294967296) :
    Calls Try.prog 36 #[.agg #[.int .i64 P, vm], .int .i64 a, .int .i64 b, .int .i64 i, .int .i64 at_, .int .u32 mask] wr fun e w4 => ∃ v', e = .returned (.tuple #[.agg #[.int .i64 P, v'], .int .i64 (bendM P L a b i at_ mask).1]) ∧ RefOk w wr P vm (bendM P L a b i at_ mask).2 (n + 1) v' w4 := by
  obtain ⟨A, c, rfl⟩ := own_shape hrow
  exact (bend_ref wr w.heap.size hB.size h hn A c hrow a b i hi at_ mask hmask).mono fun e w4 h4 => refRet_ok hB h4

theorem Ok.bound {n : Nat} (h : Ok P M L n) : ∀ p, ∀ f ∈ L p, f.1.size ≤ 140737488351232 := by
  intro p f hf
  have h1 := h.rel p.1 p.2
  have e : (p.1, p.2) = p := rfl
  rw [e] at h1
  rw [h1] at hf
  obtain ⟨x, hx, rfl⟩ := List.mem_map.1 hf
  have := h.size x (List.mem_filter.1 hx).1
  show x.f2.size ≤ _
  omega

/-- What holds between an operation and what is asked of it: x's link stands in block X. -/
structure MidAt (w wx : World) (g mb Bm X : Nat) (P : Int) (L : Int × Int → List Fr) (M : List RF) (vm : Value) (F T : Int) : Prop where
  at_ : PlaysAt w wx g mb Bm P L M vm
  c1 : wx.cell? ⟨X, 1, none⟩ = some (.int .i64 F)
  c2 : wx.cell? ⟨X, 2, none⟩ = some (.int .i64 T)

theorem MidAt.cells {wx : World} {F T : Int} (h : MidAt w wx g mb Bm X P L M vm F T) {w' : World} (hb : Below wx.heap.size wx w') :
    w'.cell? ⟨Bm, 0, none⟩ = some (.int .i64 P) ∧ w'.cell? ⟨Bm, 1, none⟩ = some vm ∧ w'.cell? ⟨X, 1, none⟩ = some (.int .i64 F) ∧ w'.cell? ⟨X, 2, none⟩ = some (.int .i64 T) := by
  have h1 := h.at_.box
  exact ⟨cell_below hb (by simp [World.cell?, h1]), cell_below hb (by simp [World.cell?, h1]), cell_below hb h.c1, cell_below hb h.c2⟩

theorem mid_all {wx : World} {n : Nat} (h : PlaysAt w wx g mb Bm P L M vm) (ho : Ok P M L n) (hn : n < 1000) {w' : World} (hb : Below wx.heap.size wx w') :
    Calls Try.prog 39 #[.pointer (some ⟨g, 0, none⟩)] w' fun e w'' => e = .returned (.int .i64 M.length) ∧ Below wx.heap.size wx w'' := by
  obtain ⟨O, m, hnet, _⟩ := h.after hb
  have hl := ho.len
  have ha := ho.all hnet
  refine (all_net hnet (by omega)).mono ?_
  rintro e w2 ⟨rfl, h2⟩
  rw [ha]
  exact ⟨rfl, hb.trans (h2.mono hb.size)⟩

theorem mid_len {wx : World} (h : PlaysAt w wx g mb Bm P L M vm) (a b : Int) {w' : World} (hb : Below wx.heap.size wx w') :
    Calls Try.prog 40 #[.pointer (some ⟨g, 0, none⟩), .int .i64 a, .int .i64 b] w' fun e w'' => e = .returned (.int .i64 (lenM P L a b)) ∧ Below wx.heap.size wx w'' := by
  obtain ⟨O, m, hnet, _⟩ := h.after hb
  refine (len_net hnet a b).mono ?_
  rintro e w2 ⟨rfl, rfl⟩
  exact ⟨rfl, hb⟩

theorem mid_rlen {wx : World} {n : Nat} (h : PlaysAt w wx g mb Bm P L M vm) (ho : Ok P M L n) (hn : n < 1000) (a b : Int) {w' : World} (hb : Below wx.heap.size wx w') :
    Calls Try.prog 41 #[.agg #[.int .i64 P, vm], .int .i64 a, .int .i64 b] w' fun e w'' => e = .returned (.int .i64 (lenM P L a b)) ∧ Below wx.heap.size wx w'' := by
  have h2 := h.mono hb
  refine (len_ref h2.row ho hn a b).mono ?_
  rintro e w2 ⟨rfl, hb2⟩
  exact ⟨rfl, hb.trans (hb2.mono hb.size)⟩

theorem mid_next {wx : World} {n : Nat} (h : PlaysAt w wx g mb Bm P L M vm) (ho : Ok P M L n) {w' : World} (hb : Below wx.heap.size wx w') :
    Calls Try.prog 42 #[.pointer (some ⟨g, 0, none⟩)] w' fun e w'' => ∃ r : Int × Int × Bool, e = .returned (.tuple #[.int .i64 r.1, .int .i64 r.2.1, .bool r.2.2]) ∧ NextIs L r ∧ Below wx.heap.size wx w'' := by
  obtain ⟨O, m, hnet, _⟩ := h.after hb
  refine (next_net hnet ho.hT).mono ?_
  rintro e w2 ⟨r, rfl, hr, h2⟩
  exact ⟨r, rfl, hr, hb.trans (h2.mono hb.size)⟩

theorem mid_rnext {P : Nat} (hP : P ≤ 64) {L : Int × Int → List Fr} {M : List RF} {wx : World} {n : Nat} (h : PlaysAt w wx g mb Bm P L M vm) (ho : Ok P M L n) (hn : n < 1000) {w' : World} (hb : Below wx.heap.size wx w') :
    Calls Try.prog 43 #[.agg #[.int .i64 P, vm]] w' fun e w'' => ∃ r : Int × Int × Bool, e = .returned (.tuple #[.int .i64 r.1, .int .i64 r.2.1, .bool r.2.2]) ∧ NextIs L r ∧ Below wx.heap.size wx w'' := by
  have h2 := h.mono hb
  refine (next_ref hP h2.row ho hn).mono ?_
  rintro e w2 ⟨r, rfl, hr, hb2⟩
  exact ⟨r, rfl, hr, hb.trans (hb2.mono hb.size)⟩

theorem plays_start {P : Nat} {w1 : World} (hnet : IsNet w.heap.size w1 (fun k => k = w.heap.size ∨ k = w.heap.size + 1) (w.heap.size + 1) P (fun _ => []) w.heap.size []) (hb : Below w.heap.size w w1) :
    PlaysAt w (w1.alloc (.cells #[.int .i64 P, .slice none 0 0] 60)) (w.heap.size + 1) w.heap.size w1.heap.size P (fun _ => []) [] (.slice none 0 0) := by
  have hb1 : Below w1.heap.size w1 (w1.alloc (.cells #[.int .i64 P, .slice none 0 0] 60)) := (Below.refl _ _).alloc (Nat.le_refl _) _
  refine ⟨⟨_, _, hnet.moved (Moved.of_below _ hb1 hnet.hn0), fun k hk => by simp [Value.ownBlock] at hk, fun h => ?_⟩, World.alloc_heap_new _ _, ⟨rfl, .inl ⟨rfl, rfl⟩⟩, fun k hk => by simp [Value.ownBlock] at hk, hb.size, hb.trans (hb1.mono hb.size)⟩
  have h1 := hnet.lt _ hnet.og
  omega

theorem ok_start (P : Int) : Ok P [] (fun _ => []) 0 := ⟨fun a b => rfl, Nat.le_refl _, fun x hx => by simp at hx, fun x hx => by simp at hx⟩
end
end Go.Proofs.Ytnnmhpplmihidaa
