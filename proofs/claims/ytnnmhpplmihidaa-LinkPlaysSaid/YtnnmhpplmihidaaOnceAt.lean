/- LinkOnce: what holds between two of its operations. -/
import Derived.Test.YtnnmhpplmihidaaAwake26
import Derived.Test.YtnnmhpplmihidaaActs
import Derived.Test.YtnnmhpplmihidaaOnceLaw
import Derived.Deep.AppendLies
import Derived.Test.YtnnmhpplmihidaaWEqStruct
namespace Go.Proofs.Ytnnmhpplmihidaa
set_option linter.unusedVariables false
set_option linter.unusedSimpArgs false
open Go.RowKit Go.Proofs.YtnnmhpplmihidaaW.PrintWords

def fv (x : FV) : List Value := [.int .i64 x.1, .int .i64 x.2.1, .string x.2.2, .string ByteArray.empty]
def fvCells (l : List FV) : List Value := l.flatMap fv
theorem fvCells_append (a b : List FV) : fvCells (a ++ b) = fvCells a ++ fvCells b := by simp [fvCells]
theorem fvCells_length (l : List FV) : (fvCells l).length = l.length * 4 := by
  induction l with
  | nil => rfl
  | cons f l ih => simp only [fvCells, List.flatMap_cons, List.length_append, fv, List.length_cons, List.length_nil] at ih ⊢; omega
theorem fvCells_at : ∀ (l : List FV) (i : Nat) (h : i < l.length) (j : Nat) (hj : j < 4), (fvCells l)[i * 4 + j]? = (fv l[i])[j]?
  | x :: l, 0, _, j, hj => by
    show (fv x ++ fvCells l)[0 * 4 + j]? = _
    rw [Nat.zero_mul, Nat.zero_add, List.getElem?_append_left (by simp [fv]; omega)]
    rfl
  | x :: l, i + 1, h, j, hj => by
    show (fv x ++ fvCells l)[(i + 1) * 4 + j]? = _
    rw [List.getElem?_append_right (by simp [fv]; omega), show (i + 1) * 4 + j - (fv x).length = i * 4 + j by simp [fv]; omega]
    exact fvCells_at l i (by simpa using h) j hj

theorem info_FV : (Try.prog.info? 52).map (fun i => (i.zero, i.size, i.bytes)) = some (some (.agg #[.int .i64 0, .int .i64 0, .string ByteArray.empty, .string ByteArray.empty]), 4, 48) := by kernel_rfl

theorem part_int (w : World) (cs : Array Value) (o : Nat) (v : Value) (h : cs[o]? = some v) : (part 3 cs o).run Try.prog w = .ok v w := by
  have ha : (isAgg 3).run Try.prog w = .ok false w := by kernel_rfl
  simp [part, Sem.run_bind, ha, h, Result.andThen]
theorem part_str (w : World) (cs : Array Value) (o : Nat) (v : Value) (h : cs[o]? = some v) : (part 9 cs o).run Try.prog w = .ok v w := by
  have ha : (isAgg 9).run Try.prog w = .ok false w := by kernel_rfl
  simp [part, Sem.run_bind, ha, h, Result.andThen]

set_option maxRecDepth 100000 in
theorem fv_equal (w : World) (y x : FV) : (binOp .eql 52 (.agg #[.int .i64 y.1, .int .i64 y.2.1, .string y.2.2, .string ⟨#[]⟩]) (.agg #[.int .i64 x.1, .int .i64 x.2.1, .string x.2.2, .string ⟨#[]⟩])).run Try.prog w = .ok (.bool (decide (y = x))) w := by
  rw [run_eql_struct]
  have h : (Op.equalIn (9999 + 1) 52 (.agg #[.int .i64 y.1, .int .i64 y.2.1, .string y.2.2, .string ⟨#[]⟩]) (.agg #[.int .i64 x.1, .int .i64 x.2.1, .string x.2.2, .string ⟨#[]⟩])).run Try.prog w = .ok ((y.1 == x.1) && ((y.2.1 == x.2.1) && ((y.2.2.toList == x.2.2.toList) && (ByteArray.toList ⟨#[]⟩ == ByteArray.toList ⟨#[]⟩)))) w := by
    refine eqA_of Try.underlying52 (by kernel_rfl) ?_
    refine eqf_cons (by decide) (part_int w _ _ _ rfl) (part_int w _ _ _ rfl) (run_equalIn_int w 9998 _ _ _ _ _ Try.underlying3) ?_
    refine eqf_cons (by decide) (part_int w _ _ _ rfl) (part_int w _ _ _ rfl) (run_equalIn_int w 9998 _ _ _ _ _ Try.underlying3) ?_
    refine eqf_cons (by decide) (part_str w _ _ _ rfl) (part_str w _ _ _ rfl) (run_equalIn_string w 9998 _ _ _ Try.underlying9) ?_
    exact eqf_last (by decide) (part_str w _ _ _ rfl) (part_str w _ _ _ rfl) (run_equalIn_string w 9998 _ _ _ Try.underlying9)
  show ((Op.equalIn (9999 + 1) 52 (.agg #[.int .i64 y.1, .int .i64 y.2.1, .string y.2.2, .string ⟨#[]⟩]) (.agg #[.int .i64 x.1, .int .i64 x.2.1, .string x.2.2, .string ⟨#[]⟩])).run Try.prog w).andThen (fun b w' => Result.ok (Value.bool b) w') = _
  rw [h]
  simp only [Result.andThen_ok]
  rw [beq_toList]
  obtain ⟨a, b, c⟩ := y
  obtain ⟨a', b', c'⟩ := x
  congr 2
  rw [Bool.eq_iff_iff]
  simp

theorem fv_row {w : World} {n0 : Nat} {A : Option Addr} {c : Nat} {l : List FV} (h : w.ownsRow n0 52 4 (.slice A l.length c) l.length (fvCells l)) {q : Nat} (hq : q < l.length) :
    ∃ G, A = some ⟨G, 0, none⟩ ∧ w.cell? ⟨G, q * 4, none⟩ = some (.int .i64 l[q].1) ∧ w.cell? ⟨G, q * 4 + 1, none⟩ = some (.int .i64 l[q].2.1) ∧ w.cell? ⟨G, q * 4 + 2, none⟩ = some (.string l[q].2.2) ∧ w.cell? ⟨G, q * 4 + 3, none⟩ = some (.string ⟨#[]⟩) := by
  obtain ⟨G, c', e⟩ := own_some h (by omega)
  cases e
  refine ⟨G, rfl, ?_, ?_, ?_, ?_⟩
  · rw [h.cellAt _ (by omega)]
    exact fvCells_at l q hq 0 (by omega)
  all_goals
    rw [h.cellAt _ (by omega), fvCells_at l q hq _ (by omega)]
    rfl

theorem cnt_take (x : FV) {l : List FV} {q : Nat} (h : q < l.length) : cnt x (l.take (q + 1)) = cnt x (l.take q) + if l[q] = x then 1 else 0 := by
  rw [List.take_succ_eq_append_getElem h, cnt_append, cnt_one]
theorem cnt_le (x : FV) (l : List FV) : cnt x l ≤ l.length := List.countP_le_length

structure OnceAt (w wr : World) (g mb : Nat) (L : Int × Int → List Fr) (sent got : List FV) (vs vg : Value) : Prop where
  net : ∃ O m, IsNet w.heap.size wr O g 3 L mb m ∧ (∀ k, vs.ownBlock = some k → ¬ O k) ∧ (∀ k, vg.ownBlock = some k → ¬ O k)
  srow : wr.ownsRow w.heap.size 52 4 vs sent.length (fvCells sent)
  grow : wr.ownsRow w.heap.size 52 4 vg got.length (fvCells got)
  apart : ∀ k, vs.ownBlock = some k → vg.ownBlock ≠ some k
  below : Below w.heap.size w wr

section
variable {w wr : World} {g mb : Nat} {L : Int × Int → List Fr} {sent got : List FV} {vs vg : Value}

theorem OnceAt.after (h : OnceAt w wr g mb L sent got vs vg) {w2 : World} (hb : Below wr.heap.size wr w2) :
    ∃ O m, IsNet w.heap.size w2 O g 3 L mb m ∧ ∀ L' w', NetStep w.heap.size w2 O g 3 L' mb w' → OnceAt w w' g mb L' sent got vs vg ∧ (∀ k, wr.heap.size ≤ k → k < w2.heap.size → w'.heap[k]? = w2.heap[k]?) ∧
      ∀ w'', Below w.heap.size w' w'' → (∀ k, k < w'.heap.size → (k < wr.heap.size ∨ w2.heap.size ≤ k) → w''.heap[k]? = w'.heap[k]?) → OnceAt w w'' g mb L' sent got vs vg := by
  obtain ⟨O, m, hn, hs, hg⟩ := h.net
  have hmv : Moved w.heap.size O wr w2 := Moved.of_below _ hb hn.hn0
  refine ⟨O, m, hn.moved hmv, fun L' w' hstep => ?_⟩
  obtain ⟨O', m', h1, h2, h3⟩ := hstep
  have K : ∀ k, k < wr.heap.size → ¬ O k → w'.heap[k]? = wr.heap[k]? := fun k hk ho => (h3.keep k (Nat.lt_of_lt_of_le hk hb.size) ho).trans (hb.block k hk)
  have N : ∀ v : Value, ∀ n xs, wr.ownsRow w.heap.size 52 4 v n xs → (∀ k, v.ownBlock = some k → ¬ O k) → ∀ k, v.ownBlock = some k → ¬ O' k := by
    intro v n xs hr ho k hk hO'
    rcases h2 k hO' with h | h
    · exact ho k hk h
    · have := own_lt' hr k hk
      have := hb.size
      omega
  have hlast : OnceAt w w' g mb L' sent got vs vg := ⟨⟨O', m', h1, N _ _ _ h.srow hs, N _ _ _ h.grow hg⟩, own_keep h.srow (fun k hk => K k (own_lt' h.srow k hk) (hs k hk)), own_keep h.grow (fun k hk => K k (own_lt' h.grow k hk) (hg k hk)), h.apart,
    h.below.trans ((hb.mono h.below.size).trans h3.below)⟩
  refine ⟨hlast, fun k hk hlt => h3.keep k hlt (fun ho => by have := hn.lt k ho; omega), fun w'' hb'' hk'' => ?_⟩
  have hsz := hb.size
  have hsz3 := h3.below.size
  refine ⟨⟨O', m', h1.moved ⟨hb'', fun k hk ho => hk'' k hk ?_⟩, N _ _ _ h.srow hs, N _ _ _ h.grow hg⟩, own_keep hlast.srow (fun k hk => ?_), own_keep hlast.grow (fun k hk => ?_), h.apart, hlast.below.trans hb''⟩
  · rcases h2 k ho with h | h
    · exact .inl (hn.lt k h)
    · exact .inr h
  · have := own_lt' h.srow k hk
    exact hk'' k (by omega) (.inl this)
  · have := own_lt' h.grow k hk
    exact hk'' k (by omega) (.inl this)

theorem OnceAt.push (h : OnceAt w wr g mb L sent got vs vg) {w3 w4 : World} (hb : Below wr.heap.size wr w3) (x : FV) {g' cap : Nat}
    (hrow : w4.ownsRow w.heap.size 52 4 (.slice (some ⟨g', 0, none⟩) (sent.length + 1) cap) (sent.length + 1) (fvCells sent ++ fv x)) (hgr : w3.grownBy w4 vs.ownBlock) (hg : vs.ownBlock = some g' ∨ g' = w3.heap.size) :
    OnceAt w w4 g mb L (sent ++ [x]) got (.slice (some ⟨g', 0, none⟩) (sent.length + 1) cap) vg := by
  obtain ⟨O, m, hn, hs, hgo⟩ := h.net
  have hsz := hb.size
  have K : ∀ k, k < wr.heap.size → vs.ownBlock ≠ some k → w4.heap[k]? = wr.heap[k]? := fun k hk ho => (hgr.block k (Nat.lt_of_lt_of_le hk hsz) (Ne.symm ho)).trans (hb.block k hk)
  have hbl : Below w.heap.size wr w4 := by
    have hb' := hb.mono h.below.size
    exact ⟨hgr.os.trans hb'.os, hgr.tape.trans hb'.tape, hgr.output.trans hb'.output, Nat.le_trans hb'.size hgr.size, fun k hk => K k (Nat.lt_of_lt_of_le hk h.below.size) (fun e => by have := own_ge' h.srow k e; omega)⟩
  refine ⟨⟨O, m, hn.moved ⟨hbl, fun k hk ho => K k hk (fun e => hs k e ho)⟩, fun k hk ho => ?_, hgo⟩, ?_, own_keep h.grow (fun k hk => K k (own_lt' h.grow k hk) (fun e => h.apart k e hk)), fun k hk hk' => ?_, h.below.trans hbl⟩
  · simp [Value.ownBlock] at hk
    subst hk
    rcases hg with e | e
    · exact hs _ e ho
    · have := hn.lt _ ho
      omega
  · rw [List.length_append, fvCells_append]
    show w4.ownsRow _ _ _ _ (sent.length + 1) (fvCells sent ++ (fv x ++ []))
    rw [List.append_nil]
    exact hrow
  · simp [Value.ownBlock] at hk
    subst hk
    rcases hg with e | e
    · exact h.apart _ e hk'
    · have := own_lt' h.grow _ hk'
      omega

theorem OnceAt.swap (h : OnceAt w wr g mb L sent got vs vg) : OnceAt w wr g mb L got sent vg vs := by
  obtain ⟨O, m, hn, hs, hg⟩ := h.net
  exact ⟨⟨O, m, hn, hg, hs⟩, h.grow, h.srow, fun k hk hk' => h.apart k hk' hk, h.below⟩
end
end Go.Proofs.Ytnnmhpplmihidaa
