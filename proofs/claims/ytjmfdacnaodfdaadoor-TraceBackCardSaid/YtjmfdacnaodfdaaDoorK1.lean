/- The two readers and writers as plain machines over lists of bytes; the document's. package coder: the writer. package coder: the writer's own functions. package coder: the writer's Number, Text and Done. package coder: the reader's Number. package coder: the reader's Text. The document's numbers as bytes; its writer's Number and Text. package ops: may an operation be? -/
import Derived.Test.YtjmfdacnaodfdaaDoorK0
import Derived.Lib.LaidTab
import Derived.Lib.Strings
import Derived.Lib.Slices
import Derived.Lib.Walk
import Derived.Lib.Builder
import Derived.Lib.AppendStr
import Derived.Lib.UnsafeStr
import Derived.WalkKit
import Derived.Shelf.RegionOpenPlain
import Derived.Laws.Externs
import Derived.Test.YtjmfdacnaodfdaaDoorPTPx2
import Derived.WalkSpells
import Derived.IntWalk
import Derived.Lib.Hide
import Derived.Laws.BitsLemmas
import Derived.RangeFuncRecord
import Derived.Deep.LoopGhost
namespace Go.Proofs.YtjmfdacnaodfdaaDoor
set_option linter.unusedVariables false
set_option linter.unusedSimpArgs false
open Go.RowKit

/-- A reader: what is left, and what is wrong. -/
structure Rd where
  l : List UInt8
  e : Int
def Rd.num (r : Rd) (most : Int) : Int × Rd :=
  if r.e ≠ 0 then (0, r) else
  if numE r.l most ≠ 0 then (0, ⟨r.l, numE r.l most⟩) else
  ((takeM r.l).1, ⟨r.l.drop (takeM r.l).2.1.toNat, 0⟩)
def Rd.txt (r : Rd) (most : Int) : List UInt8 × Rd :=
  if r.e ≠ 0 then ([], r) else
  if numE r.l most ≠ 0 then ([], ⟨r.l, numE r.l most⟩) else
  if r.l.length < (takeM r.l).2.1.toNat + (takeM r.l).1.toNat then ([], ⟨r.l, 5⟩) else
  ((r.l.drop (takeM r.l).2.1.toNat).take (takeM r.l).1.toNat, ⟨(r.l.drop (takeM r.l).2.1.toNat).drop (takeM r.l).1.toNat, 0⟩)
def Rd.fail (r : Rd) (f : Int) : Rd := if r.e = 0 then ⟨r.l, f⟩ else r
def Rd.done (r : Rd) : Int := if r.e = 0 then (if r.l = [] then 0 else 6) else r.e

/-- What a text is whose bytes are known. -/
abbrev bs (l : List UInt8) : ByteArray := ⟨l.toArray⟩
theorem bs_data (l : List UInt8) : (bs l).data.toList = l := rfl
theorem bs_size (l : List UInt8) : (bs l).size = l.length := by simp [bs, ByteArray.size]
theorem bs_of (S : ByteArray) : bs S.data.toList = S := rfl
theorem bs_ext_to (l : List UInt8) (k : Nat) (h : k ≤ l.length) : (bs l).extract k (bs l).size = bs (l.drop k) := by
  apply ByteArray.ext
  apply Array.toList_inj.1
  simp [ByteArray.size, List.take_of_length_le]
theorem bs_ext_take (l : List UInt8) (k : Nat) : (bs l).extract 0 k = bs (l.take k) := by
  apply ByteArray.ext
  apply Array.toList_inj.1
  simp [ByteArray.size]
theorem bs_append (a b : List UInt8) : bs a ++ bs b = bs (a ++ b) := by
  apply ByteArray.ext
  apply Array.toList_inj.1
  simp
theorem bs_empty : (ByteArray.empty) = bs [] := rfl
theorem bs_inj {a b : List UInt8} (h : bs a = bs b) : a = b := by
  have := congrArg (fun S : ByteArray => S.data.toList) h
  exact this

/-- A reader at block b. -/
def RdAt (T : TypeId) (w : World) (b : Nat) (r : Rd) : Prop := RAt T w b (bs r.l) r.e

theorem KeptBut.below {b B : Nat} {w w' : World} (h : KeptBut b w w') (hb : B ≤ b) (hw : B ≤ w.heap.size) : Below B w w' :=
  ⟨h.os, h.tape, h.output, h.size, fun k hk => h.block k (by omega) (by omega)⟩
theorem KeptBut.of_below {b : Nat} {w w' : World} (h : Below w.heap.size w w') : KeptBut b w w' :=
  ⟨h.os, h.tape, h.output, h.size, fun k hk _ => h.block k hk⟩

theorem numE_ok {l : List UInt8} {most : Int} (h : numE l most = 0) : ∃ N K : Nat, takeM l = ((N : Int), (K : Int), 0) ∧ (N : Int) ≤ most ∧ K ≤ l.length ∧ 1 ≤ K ∧ N ≤ 1073741824 := by
  obtain ⟨n, k, e, ht⟩ : ∃ n k e, takeM l = (n, k, e) := ⟨_, _, _, rfl⟩
  unfold numE at h
  rw [ht] at h
  simp only at h
  split at h
  · omega
  · rename_i hc
    subst h
    obtain ⟨K, rfl, h1, h2⟩ := takeM_ok ht
    obtain ⟨N, rfl, h3⟩ := takeM_nat ht
    exact ⟨N, K, ht, by simp at hc; omega, h2, h1, h3⟩

theorem rnum_any' (b : Nat) (r : Rd) (most : Int) (w : World) (h : RdAt 73 w b r) :
    Calls Tryd.prog 36 #[.pointer (some ⟨b, 0, none⟩), .int .i64 most] w fun v w' => v = .returned (.int .i64 (r.num most).1) ∧ RdAt 73 w' b (r.num most).2 ∧ KeptBut b w w' := by
  obtain ⟨l, e⟩ := r
  unfold Rd.num
  simp only
  by_cases he : e ≠ 0
  · rw [if_pos he]
    refine (rnumber_stop b _ e most he w h).mono ?_
    rintro v w' ⟨rfl, rfl⟩
    exact ⟨rfl, h, KeptBut.refl _ _⟩
  · rw [if_neg he]
    obtain rfl : e = 0 := by simpa using he
    by_cases hE : numE l most ≠ 0
    · rw [if_pos hE]
      refine (rnumber_bad b (bs l) most hE w h).mono ?_
      rintro v w' ⟨rfl, h1, h2⟩
      exact ⟨rfl, h1, h2⟩
    · rw [if_neg hE]
      obtain ⟨N, K, ht, hm, hK, _, _⟩ := numE_ok (by simpa using hE)
      refine (rnumber_ok b (bs l) most N K (by rw [bs_size]; exact hK) ht hm w h).mono ?_
      rintro v w' ⟨rfl, h1, h2⟩
      rw [bs_ext_to l K hK] at h1
      rw [ht]
      exact ⟨rfl, h1, h2⟩

theorem rtxt_any' (b : Nat) (r : Rd) (most : Int) (w : World) (h : RdAt 73 w b r) :
    Calls Tryd.prog 37 #[.pointer (some ⟨b, 0, none⟩), .int .i64 most] w fun v w' => v = .returned (.string (bs (r.txt most).1)) ∧ RdAt 73 w' b (r.txt most).2 ∧ KeptBut b w w' := by
  obtain ⟨l, e⟩ := r
  unfold Rd.txt
  simp only
  by_cases he : e ≠ 0
  · rw [if_pos he]
    refine (rtext_stop b _ e most he w h).mono ?_
    rintro v w' ⟨rfl, rfl⟩
    exact ⟨rfl, h, KeptBut.refl _ _⟩
  · rw [if_neg he]
    obtain rfl : e = 0 := by simpa using he
    by_cases hE : numE l most ≠ 0
    · rw [if_pos hE]
      refine (rtext_bad b (bs l) most hE w h).mono ?_
      rintro v w' ⟨rfl, h1, h2⟩
      exact ⟨rfl, h1, h2⟩
    · rw [if_neg hE]
      obtain ⟨N, K, ht, hm, hK, _, _⟩ := numE_ok (by simpa using hE)
      rw [ht]
      simp only [Int.toNat_natCast]
      by_cases hs : l.length < K + N
      · rw [if_pos hs]
        refine (rtext_short b (bs l) most N K (by rw [bs_size]; exact hK) ht hm (by rw [bs_size]; exact hs) w h).mono ?_
        rintro v w' ⟨rfl, h1, h2⟩
        exact ⟨rfl, h1, h2⟩
      · rw [if_neg hs]
        refine (rtext_ok b (bs l) most N K (by rw [bs_size]; exact hK) ht hm (by rw [bs_size]; omega) w h).mono ?_
        rintro v w' ⟨rfl, h1, h2⟩
        rw [bs_ext_to l K hK, bs_ext_to _ N (by rw [List.length_drop]; omega)] at h1
        rw [bs_ext_to l K hK, bs_ext_take]
        exact ⟨rfl, h1, h2⟩

theorem rfail_any' (b : Nat) (r : Rd) (f : Int) (w : World) (h : RdAt 73 w b r) :
    Calls Tryd.prog 72 #[.pointer (some ⟨b, 0, none⟩), .int .i64 f] w fun v w' => v = .returned (.tuple #[]) ∧ RdAt 73 w' b (r.fail f) ∧ KeptBut b w w' := by
  refine (rfail_any b _ _ f w h).mono ?_
  rintro v w' ⟨rfl, h1, h2⟩
  refine ⟨rfl, ?_, h2⟩
  unfold Rd.fail
  unfold RdAt
  split
  · rename_i h0
    rw [if_pos h0] at h1
    exact h1
  · rename_i h0
    rw [if_neg h0] at h1
    exact h1
theorem rdoneM_eq (r : Rd) : rdoneM (bs r.l) r.e = r.done := by
  unfold rdoneM Rd.done
  by_cases he : r.e = 0
  · rw [if_pos he, if_pos he]
    by_cases hl : r.l = []
    · rw [if_pos hl, if_pos (by rw [hl]; rfl)]
    · rw [if_neg hl, if_neg (fun h => hl (bs_inj (h.trans bs_empty)))]
  · rw [if_neg he, if_neg he]
theorem rdone_any' (b : Nat) (r : Rd) (w : World) (h : RdAt 73 w b r) :
    Calls Tryd.prog 38 #[.pointer (some ⟨b, 0, none⟩)] w fun v w' => v = .returned (.int .i64 r.done) ∧ w = w' := by
  have H := rdone_any b (bs r.l) r.e w h
  rw [rdoneM_eq] at H
  exact H

/-- A writer: what was put, and what is wrong. -/
structure Wr where
  l : List UInt8
  e : Int
def Wr.put (r : Wr) (is : Bool) (s : List UInt8) : Wr := if r.e ≠ 0 then r else if is = true then ⟨r.l ++ s, 0⟩ else ⟨r.l, 2⟩
def Wr.num (r : Wr) (n : Int) : Wr := r.put (decide (0 ≤ n ∧ n ≤ 1073741824)) (putM n)
def Wr.txt (r : Wr) (t : List UInt8) : Wr := r.put (decide (t.length ≤ 65536)) (putM t.length ++ t)
def Wr.fail (r : Wr) (f : Int) : Wr := if r.e = 0 then ⟨r.l, f⟩ else r
def Wr.out (r : Wr) : List UInt8 := if r.e = 0 then r.l else []
def WrAt (w : World) (b : Nat) (r : Wr) : Prop := WAt w b (bs r.l) r.e
theorem Wr.put_len (r : Wr) (is : Bool) (s : List UInt8) : (r.put is s).l.length ≤ r.l.length + s.length := by
  unfold Wr.put
  split
  · omega
  · split <;> simp
theorem wput_any' (b : Nat) (r : Wr) (is : Bool) (s : List UInt8) (hS : r.l.length + s.length ≤ 1000000000000) (w : World) (h : WrAt w b r) :
    Calls Tryd.prog 45 #[.pointer (some ⟨b, 0, none⟩), .bool is, .string (bs s)] w fun v w' => v = .returned (.tuple #[]) ∧ WrAt w' b (r.put is s) ∧ KeptBut b w w' := by
  refine (wput_any b (bs r.l) (bs s) r.e is (by rw [bs_size, bs_size]; exact hS) w h).mono ?_
  rintro v w' ⟨rfl, h1, h2⟩
  refine ⟨rfl, ?_, h2⟩
  have e1 : wputS (bs r.l) r.e is (bs s) = bs (r.put is s).l := by
    unfold wputS Wr.put
    by_cases he : r.e = 0
    · cases is <;> simp [he, bs_append]
    · simp [he]
  have e2 : wputE r.e is = (r.put is s).e := by
    unfold wputE Wr.put
    by_cases he : r.e = 0
    · cases is <;> simp [he]
    · simp [he]
  rw [e1, e2] at h1
  exact h1
theorem wfail_any' (b : Nat) (r : Wr) (f : Int) (w : World) (h : WrAt w b r) :
    Calls Tryd.prog 21 #[.pointer (some ⟨b, 0, none⟩), .int .i64 f] w fun v w' => v = .returned (.tuple #[]) ∧ WrAt w' b (r.fail f) ∧ KeptBut b w w' := by
  refine (wfail_any b _ _ f w h).mono ?_
  rintro v w' ⟨rfl, h1, h2⟩
  refine ⟨rfl, ?_, h2⟩
  unfold Wr.fail
  unfold WrAt
  split
  · rename_i h0
    rw [if_pos h0] at h1
    exact h1
  · rename_i h0
    rw [if_neg h0] at h1
    exact h1
theorem wdone_any' (b : Nat) (r : Wr) (w : World) (h : WrAt w b r) :
    Calls Tryd.prog 24 #[.pointer (some ⟨b, 0, none⟩)] w fun v w' => v = .returned (.tuple #[.string (bs r.out), .int .i64 r.e]) ∧ Below w.heap.size w w' := by
  have H := wdone_any b (bs r.l) r.e w h
  have e1 : (if r.e = 0 then bs r.l else ⟨#[]⟩) = bs r.out := by
    unfold Wr.out
    split <;> rfl
  rw [e1] at H
  exact H
end Go.Proofs.YtjmfdacnaodfdaaDoor

namespace Go.Proofs.YtjmfdacnaodfdaaDoor
set_option linter.unusedVariables false
set_option linter.unusedSimpArgs false
open Go.RowKit

theorem sizeB : (Tryd.prog.info? 46).map (·.size) = some 2 := by kernel_rfl
theorem liesC : liesAt Tryd.prog Tryd.prog.depth 48 (3 / Tryd.prog.cellsOf 48) 0 46 1 = true := by kernel_rfl

/-- A writer of the program's at block b: its builder, used or not, and what is wrong. -/
def CwB (b : Nat) (p : Value) (r : Wr) (w : World) : Prop :=
  ∃ v, w.heap[b]? = some (.cells #[p, v, .int .i64 r.e] 48 (0, 0)) ∧ w.ownsRow b 5 1 v r.l.length (Lib.byteCells r.l) ∧ v.ownBlock ≠ some b
def CwAt (b : Nat) (r : Wr) (w : World) : Prop := CwB b (.pointer none) r w ∨ CwB b (.pointer (some ⟨b, 0, none⟩)) r w
/-- What was there and is no row of bytes is as it was, but for block b; and all below b. -/
structure KeptW (b : Nat) (w w' : World) : Prop where
  below : Below b w w'
  block : ∀ k, k < w.heap.size → k ≠ b → (∀ cs fr, w.heap[k]? ≠ some (.cells cs 5 fr)) → w'.heap[k]? = w.heap[k]?
theorem KeptW.refl (b : Nat) (w : World) : KeptW b w w := ⟨Below.refl _ _, fun _ _ _ _ => rfl⟩
theorem KeptW.trans {b : Nat} {w1 w2 w3 : World} (h : KeptW b w1 w2) (k : KeptW b w2 w3) : KeptW b w1 w3 :=
  ⟨h.below.trans k.below, fun i hi hne hu => by
    have e1 := h.block i hi hne hu
    rw [k.block i (Nat.lt_of_lt_of_le hi h.below.size) hne (fun cs fr => by rw [e1]; exact hu cs fr), e1]⟩
theorem KeptW.of_below {b : Nat} {w w' : World} (h : Below w.heap.size w w') (hb : b ≤ w.heap.size) : KeptW b w w' :=
  ⟨h.mono hb, fun k hk _ _ => h.block k hk⟩
theorem KeptW.set (b i : Nat) (w : World) (v : Value) : KeptW b w (w.setCell ⟨b, i, none⟩ v) :=
  ⟨(Below.refl _ _).setCell (p := ⟨b, i, none⟩) (Nat.le_refl _) v, fun k hk hne _ => Go.heap_setCell_other _ _ _ _ hne⟩
theorem KeptW.heap {b k : Nat} {w w' : World} {cs : Array Value} {T : TypeId} {fr : Nat × Nat} (h : KeptW b w w') (hb : w.heap[k]? = some (.cells cs T fr)) (hne : k ≠ b) (hT : T ≠ 5) : w'.heap[k]? = some (.cells cs T fr) := by
  have hk : k < w.heap.size := by
    rcases Nat.lt_or_ge k w.heap.size with h' | h'
    · exact h'
    · simp [Array.getElem?_eq_none h'] at hb
  rw [h.block k hk hne, hb]
  intro cs' fr' e
  rw [hb] at e
  simp only [Option.some.injEq, Obj.cells.injEq] at e
  exact hT e.2.1
theorem CwB.lt {b : Nat} {p : Value} {r : Wr} {w : World} (h : CwB b p r w) : b < w.heap.size := by
  obtain ⟨v, hb, _⟩ := h
  rcases Nat.lt_or_ge b w.heap.size with h' | h'
  · exact h'
  · simp [Array.getElem?_eq_none h'] at hb
theorem CwAt.lt {b : Nat} {r : Wr} {w : World} (h : CwAt b r w) : b < w.heap.size := by rcases h with h | h <;> exact h.lt
theorem CwB.used {b : Nat} {p : Value} {r : Wr} {w : World} (h : CwB b p r w) (q : Value) : CwB b q r (w.setCell ⟨b, 0, none⟩ q) := by
  obtain ⟨v, hb, hown, hne⟩ := h
  refine ⟨v, ?_, ?_, hne⟩
  · simp [World.setCell, Array.getElem?_modify, hb]
  · refine hown.kept (row := some b) ⟨rfl, rfl, rfl, by simp [World.setCell], fun k _ hk => Below.heap_setCell _ _ _ _ (fun e => hk (by simp [e]))⟩ ?_
    exact Or.inr hne
theorem CwB.err {b : Nat} {p : Value} {r : Wr} {w : World} (h : CwB b p r w) (e : Int) : CwB b p ⟨r.l, e⟩ (w.setCell ⟨b, 2, none⟩ (.int .i64 e)) := by
  obtain ⟨v, hb, hown, hne⟩ := h
  refine ⟨v, ?_, ?_, hne⟩
  · simp [World.setCell, Array.getElem?_modify, hb]
  · refine hown.kept (row := some b) ⟨rfl, rfl, rfl, by simp [World.setCell], fun k _ hk => Below.heap_setCell _ _ _ _ (fun e => hk (by simp [e]))⟩ ?_
    exact Or.inr hne
theorem CwAt.err {b : Nat} {r : Wr} {w : World} (h : CwAt b r w) (e : Int) : CwAt b ⟨r.l, e⟩ (w.setCell ⟨b, 2, none⟩ (.int .i64 e)) := by
  rcases h with h | h
  · exact .inl (h.err e)
  · exact .inr (h.err e)
/-- What a writer's error gives a walk. -/
theorem CwAt.cell2 {b : Nat} {r : Wr} {w : World} (h : CwAt b r w) : w.cell? ⟨b, 2, none⟩ = some (.int .i64 r.e) ∧ w.frozen? ⟨b, 2, none⟩ = false := by
  rcases h with ⟨v, hb, _⟩ | ⟨v, hb, _⟩ <;> exact ⟨by rw [Lib.cell_of_heap hb]; rfl, Lib.frozen_of_heap hb 2⟩
/-- A writer stays what it is where no row of bytes and not its own block is touched. -/
theorem CwAt.below {b : Nat} {r : Wr} {w w' : World} (h : CwAt b r w) (hb : Below w.heap.size w w') : CwAt b r w' := by
  have hlt := h.lt
  have key : ∀ p, CwB b p r w → CwB b p r w' := by
    rintro p ⟨v, h1, h2, h3⟩
    refine ⟨v, by rw [hb.block b hlt]; exact h1, own_keep h2 (fun k hk => hb.block k (h2.lt k hk).2), h3⟩
  rcases h with h | h
  · exact .inl (key _ h)
  · exact .inr (key _ h)
theorem cw_new (w : World) : CwAt w.heap.size ⟨[], 0⟩ (w.alloc (.cells #[.pointer none, .slice none 0 0, .int .i64 0] 48)) :=
  Or.inl ⟨.slice none 0 0, World.alloc_heap_new w _, World.ownsRow_nil _ _ _ _, by simp [Value.ownBlock]⟩

set_option maxHeartbeats 1000000 in
set_option maxRecDepth 100000 in
theorem cwcopy_any (b : Nat) (r : Wr) (w : World) (h : CwAt b r w) :
    Calls Tryd.prog 74 #[.pointer (some ⟨b, 0, none⟩)] w fun e w' => e = .returned (.tuple #[]) ∧ (CwB b (.pointer (some ⟨b, 0, none⟩)) r w' ∧ KeptW b w w') := by
  obtain ⟨j, hj, hjs⟩ := Option.map_eq_some_iff.1 sizeB
  rcases h with h | h
  · obtain ⟨v, hb, _⟩ := id h
    have h0 : w.cell? ⟨b, 0, none⟩ = some (.pointer none) := by rw [Lib.cell_of_heap hb]; rfl
    have hsh : w.shape? b = some (48, 3) := by simp [World.shape?, hb]
    have hfz : w.frozen? ⟨b, 0, none⟩ = false := Lib.frozen_of_heap hb 0
    have HU := Lib.hid (h.used (.pointer (some ⟨b, 0, none⟩)))
    have HBB := Lib.hid (KeptW.set b 0 w (.pointer (some ⟨b, 0, none⟩)))
    clear h hb
    go_enter Tryd.func74, Tryd.ntmps74
    go_wp2
    rw [Lib.run_to_unsafe w ⟨b, 0, none⟩ Tryd.underlying43 Tryd.underlying117 hj (by rw [hjs]; decide) hsh (Nat.zero_lt_succ 2)]
    simp only [Result.andThen]
    rw [Oper.upon_value]
    go_wp2
    rw [run_callFunc_extern Tryd.func78 (by kernel_rfl) (by kernel_rfl) (by kernel_rfl) (e := Extern.AbiNoEscape.same) (by kernel_rfl)]
    rw [Lib.run_noEscape]
    simp only [Result.andThen]
    rw [Oper.upon_value]
    go_wp2
    rw [Lib.run_from_unsafe w ⟨b, 0, none⟩ Tryd.underlying117 Tryd.underlying43 hj hsh liesC]
    simp only [Result.andThen]
    rw [Oper.upon_value]
    go_wp2
    go_end0
    exact ⟨rfl, HU.out, HBB.out⟩
  · obtain ⟨v, hb, _⟩ := id h
    have h0 : w.cell? ⟨b, 0, none⟩ = some (.pointer (some ⟨b, 0, none⟩)) := by rw [Lib.cell_of_heap hb]; rfl
    have HU := Lib.hid h
    clear h hb
    go_enter Tryd.func74, Tryd.ntmps74
    go_wp2
    rw [Lib.run_neq_ptr_same w _ Tryd.underlying43 hj]
    go_wp2
    go_end0
    exact ⟨rfl, HU.out, KeptW.refl b _⟩

theorem strCells_bs (l : List UInt8) : Lib.strCells (bs l) = Lib.byteCells l := rfl
theorem byteCells_append (a c : List UInt8) : Lib.byteCells a ++ Lib.byteCells c = Lib.byteCells (a ++ c) := by simp [Lib.byteCells]

set_option maxHeartbeats 2000000 in
set_option maxRecDepth 100000 in
theorem cwwrite_any (b : Nat) (r : Wr) (s : List UInt8) (w : World) (h : CwAt b r w) (hlen : r.l.length + s.length ≤ 140737488355328) :
    Calls Tryd.prog 65 #[.pointer (some ⟨b, 0, none⟩), .string (bs s)] w fun e w' => e = .returned (.tuple #[.int .i64 s.length, .nilIface]) ∧ (CwAt b ⟨r.l ++ s, r.e⟩ w' ∧ KeptW b w w') := by
  obtain ⟨i0, hi, hz0, hz1, hz2⟩ := info_parts info_u8
  have hbw := h.lt
  have HCC := Lib.hid (cwcopy_any b r w h)
  obtain ⟨S, hS⟩ : ∃ S, bs s = S := ⟨_, rfl⟩
  have hSz : S.size = s.length := by rw [← hS, bs_size]
  have hSc : Lib.strCells S = Lib.byteCells s := by rw [← hS]; rfl
  have HSZ := Lib.hid (And.intro hSz hSc)
  have hl2 : (Lib.byteCells r.l).length + S.size ≤ 140737488355328 := by rw [Lib.byteCells_length, hSz]; exact hlen
  have HL2 := Lib.hid hl2
  rw [hS, ← hSz]
  clear h hlen hS hSz hSc hl2
  go_enter Tryd.func65, Tryd.ntmps65
  go_wp2_with fail
  refine HCC.out.mono ?_
  rintro e w1 ⟨rfl, h1, hk1⟩
  obtain ⟨v, hbk, hown, hne⟩ := h1
  have c0 : w1.cell? ⟨b, 0, none⟩ = some (.pointer (some ⟨b, 0, none⟩)) := by rw [Lib.cell_of_heap hbk]; rfl
  have c1 : w1.cell? ⟨b, 1, none⟩ = some v := by rw [Lib.cell_of_heap hbk]; rfl
  rw [← Lib.byteCells_length] at hown
  have HK1 := Lib.hid hk1
  clear hk1
  go_wp2_with (at_builtin; refine Lib.wpList_append_own_string _ rfl _ _ 44 9 rfl b 5 i0 Tryd.underlying44 Tryd.underlying9 hi hz0 hz1 hz2 _ _ _ rfl hown S rfl ?c3 ?c4 ?c5 ?_)
  case c3 => have := HL2.out; unfold maxLen; omega
  case c4 => have := HL2.out; omega
  case c5 => have := HK1.out.below.size; omega
  intro v' w2 hown' hgrow _
  have hlt : b < w1.heap.size := by
    rcases Nat.lt_or_ge b w1.heap.size with h' | h'
    · exact h'
    · simp [Array.getElem?_eq_none h'] at hbk
  have hb2 : w2.heap[b]? = some (.cells #[.pointer (some ⟨b, 0, none⟩), v, .int .i64 r.e] 48 (0, 0)) := by
    rw [hgrow.block b hlt (fun e => hne e.symm)]
    exact hbk
  have d0 : w2.cell? ⟨b, 0, none⟩ = some (.pointer (some ⟨b, 0, none⟩)) := by rw [Lib.cell_of_heap hb2]; rfl
  have d1 : w2.cell? ⟨b, 1, none⟩ = some v := by rw [Lib.cell_of_heap hb2]; rfl
  have f1 : w2.frozen? ⟨b, 1, none⟩ = false := Lib.frozen_of_heap hb2 1
  obtain ⟨ao, n', cap, rfl⟩ : ∃ ao n' cap, v' = .slice ao n' cap := by
    rcases hown'.2 with ⟨hv, _⟩ | ⟨g, cap, cur, hv, _⟩
    · exact ⟨_, _, _, hv⟩
    · exact ⟨_, _, _, hv⟩
  go_wp2
  go_ret2
  refine ⟨rfl, .inr ⟨.slice ao n' cap, ?_, ?_, ?_⟩, ?_⟩
  · simp [World.setCell, Array.getElem?_modify, hb2]
  · have hne2 : (Value.slice ao n' cap).ownBlock ≠ some b := Lib.ownBlock_ne hown' hb2 (by decide)
    have ho : w2.ownsRow b 5 1 (.slice ao n' cap) (r.l ++ s).length (Lib.byteCells (r.l ++ s)) := by
      have e1 : Lib.byteCells (r.l ++ s) = Lib.byteCells r.l ++ Lib.strCells S := by rw [HSZ.out.2, byteCells_append]
      have e2 : (r.l ++ s).length = (Lib.byteCells r.l).length + S.size := by rw [HSZ.out.1, Lib.byteCells_length, List.length_append]
      rw [e1, e2]
      exact hown'
    exact ho.kept (row := some b) ⟨rfl, rfl, rfl, by simp [World.setCell], fun k _ hk => Below.heap_setCell _ _ _ _ (fun e => hk (by simp [e]))⟩ (Or.inr hne2)
  · exact Lib.ownBlock_ne hown' hb2 (by decide)
  · refine HK1.out.trans (KeptW.trans ⟨?_, fun k hk hkb hu => hgrow.block k hk (fun e => ?_)⟩ (KeptW.set b 1 _ _))
    · exact (Below.refl b w1).grown hgrow (by omega) (fun k hk => (hown.lt k hk).1)
    · rcases hown.2 with ⟨rfl, _⟩ | ⟨g, cap', cur, rfl, _, hg, _⟩
      · simp [Value.ownBlock] at e
      · simp only [Value.ownBlock, Option.some.injEq] at e
        subst e
        exact hu _ _ hg
end Go.Proofs.YtjmfdacnaodfdaaDoor

namespace Go.Proofs.YtjmfdacnaodfdaaDoor
set_option linter.unusedVariables false
set_option linter.unusedSimpArgs false
open Go.RowKit

def strV (l : List (List UInt8)) : List Value := l.map fun s => .string (bs s)

set_option maxHeartbeats 2000000 in
set_option maxRecDepth 100000 in
theorem cwput_any (b : Nat) (r : Wr) (is : Bool) (s : Nat) (SS : List (List UInt8)) (hz : r.l.length + SS.flatten.length ≤ 1000000000) (hN : SS.length ≤ 10) (hsb : s ≠ b) (w : World) (h : CwAt b r w)
    (hs : w.heap[s]? = some (.cells (strV SS).toArray 9 (0, 0))) :
    Calls Tryd.prog 41 #[.pointer (some ⟨b, 0, none⟩), .bool is, .slice (some ⟨s, 0, none⟩) SS.length SS.length] w fun v w' => v = .returned (.tuple #[]) ∧ CwAt b (r.put is SS.flatten) w' ∧ KeptW b w w' := by
  have c2 := h.cell2.1
  have z2 := h.cell2.2
  obtain ⟨L, e⟩ := r
  simp only at c2 hz
  have HH := Lib.hid h
  have hbw := h.lt
  by_cases he : e = 0
  · subst he
    cases is with
    | false =>
      have HE : Hid (Wr.put ⟨L, 0⟩ false SS.flatten = ⟨L, 2⟩) := by unfold Hid Wr.put; simp
      rw [HE.out]
      clear h hz hN hs
      go_enter Tryd.func41, Tryd.ntmps41
      go_wp2_with fail
      go_end0
      exact ⟨rfl, HH.out.err 2, KeptW.set _ _ _ _⟩
    | true =>
      have HE : Hid (Wr.put ⟨L, 0⟩ true SS.flatten = ⟨L ++ SS.flatten, 0⟩) := by unfold Hid Wr.put; simp
      rw [HE.out]
      obtain ⟨N, hNN⟩ : ∃ N, SS.length = N := ⟨_, rfl⟩
      have HN := Lib.hid hNN
      have HS := Lib.hid hs
      have HZ := Lib.hid hz
      have hN10 : (N : Int) ≤ 10 := by omega
      rw [hNN]
      clear h hz hN hs hNN c2 z2
      have c2 := HH.out.cell2.1
      simp only at c2
      go_enter Tryd.func41, Tryd.ntmps41
      go_wp2_with fail
      go_loopg [7, 10] N (fun g t7 t10 wr => ∃ k : Nat, Hid (g = N - k ∧ k ≤ N) ∧ t10 = .int .i64 k ∧ Hid (CwAt b ⟨L ++ (SS.take k).flatten, 0⟩ wr ∧ KeptW b w wr))
      case atStart => exact ⟨0, ⟨rfl, Nat.zero_le _⟩, rfl, by simpa using HH.out, KeptW.refl _ _⟩
      case round =>
        obtain ⟨k, HG, rfl, HW⟩ := hrel
        have hk0 : (0 : Int) ≤ k := by omega
        by_cases hlt : k < N
        · have hlt' : (k : Int) < N := by omega
          have hk : k < SS.length := by rw [HN.out]; exact hlt
          have HSr := Lib.hid (HW.out.2.heap HS.out hsb (by decide))
          have hck : wr.cell? ⟨s, k, none⟩ = some (.string (bs SS[k])) := by
            rw [Lib.cell_of_heap HSr.out]
            simp [strV, hk]
          have HTK : Hid (L ++ (SS.take k).flatten ++ SS[k] = L ++ (SS.take (k + 1)).flatten) := by
            unfold Hid
            rw [List.take_succ_eq_append_getElem hk, List.flatten_append]
            simp
          have hlen : (L ++ (SS.take k).flatten).length + SS[k].length ≤ 140737488355328 := by
            have h1 := congrArg List.length HTK.out
            have h2 := congrArg List.length (congrArg List.flatten (List.take_append_drop (k + 1) SS))
            have h3 := HZ.out
            simp only [List.length_append, List.flatten_append] at h1 h2 ⊢
            omega
          have HX := Lib.hid (cwwrite_any b ⟨L ++ (SS.take k).flatten, 0⟩ SS[k] wr HW.out.1 hlen)
          obtain ⟨S, hS⟩ : ∃ S, bs SS[k] = S := ⟨_, rfl⟩
          rw [hS] at hck HX
          obtain ⟨M, hM⟩ : ∃ M, SS[k].length = M := ⟨_, rfl⟩
          rw [hM] at HX
          clear hS hM hlen
          go_wp2_with fail
          refine HX.out.mono ?_
          rintro v w1 ⟨rfl, hq⟩
          have HQ := Lib.hid hq
          clear hq
          go_wp2_with fail
          go_roundg (N - (k + 1))
          case rel => exact ⟨k + 1, ⟨rfl, hlt⟩, by go_num, by have := HQ.out.1; rw [← HTK.out]; exact this, HW.out.2.trans HQ.out.2⟩
          case measure => have := HG.out; omega
        · have hlt' : ¬ (k : Int) < N := by omega
          have hk : SS.take k = SS := List.take_of_length_le (by rw [HN.out]; omega)
          rw [hk] at HW
          clear hk
          go_wp2_with fail
          go_end0
          exact ⟨rfl, HW.out⟩
  · have he2 : (e == 0) = false := by simpa using he
    have he3 : (e != 0) = true := by simpa using he
    have HE : Hid (Wr.put ⟨L, e⟩ is SS.flatten = ⟨L, e⟩) := by unfold Hid Wr.put; simp [he]
    rw [HE.out]
    clear h hz hN hs he
    go_enter Tryd.func41, Tryd.ntmps41
    go_wp2_with fail
    go_end0
    exact ⟨rfl, HH.out, KeptW.refl _ _⟩

theorem cwfail_any (b : Nat) (r : Wr) (f : Int) (w : World) (h : CwAt b r w) :
    Calls Tryd.prog 75 #[.pointer (some ⟨b, 0, none⟩), .int .i64 f] w fun v w' => v = .returned (.tuple #[]) ∧ CwAt b (r.fail f) w' ∧ KeptW b w w' := by
  have c2 := h.cell2.1
  have z2 := h.cell2.2
  obtain ⟨L, e⟩ := r
  simp only at c2
  have HH := Lib.hid h
  by_cases he : e = 0
  · subst he
    have HE : Hid (Wr.fail ⟨L, 0⟩ f = ⟨L, f⟩) := by unfold Hid Wr.fail; simp
    rw [HE.out]
    clear h
    go_enter Tryd.func75, Tryd.ntmps75
    go_wp2_with fail
    go_end0
    exact ⟨rfl, HH.out.err f, KeptW.set _ _ _ _⟩
  · have he2 : (e == 0) = false := by simpa using he
    have HE : Hid (Wr.fail ⟨L, e⟩ f = ⟨L, e⟩) := by unfold Hid Wr.fail; simp [he]
    rw [HE.out]
    clear h he
    go_enter Tryd.func75, Tryd.ntmps75
    go_wp2_with fail
    go_end0
    exact ⟨rfl, HH.out, KeptW.refl _ _⟩
end Go.Proofs.YtjmfdacnaodfdaaDoor

namespace Go.Proofs.YtjmfdacnaodfdaaDoor
set_option linter.unusedVariables false
set_option linter.unusedSimpArgs false
open Go.RowKit

theorem cwput_new (b : Nat) (r : Wr) (is : Bool) (SS : List (List UInt8)) (hz : r.l.length + SS.flatten.length ≤ 1000000000) (hN : SS.length ≤ 10) (w : World) (h : CwAt b r w) (w' : World) (hb : Below w.heap.size w w') :
    Calls Tryd.prog 41 #[.pointer (some ⟨b, 0, none⟩), .bool is, .slice (some ⟨w'.heap.size, 0, none⟩) SS.length SS.length] (w'.alloc (.cells (strV SS).toArray 9)) fun v w'' => v = .returned (.tuple #[]) ∧ CwAt b (r.put is SS.flatten) w'' ∧ KeptW b w w'' := by
  have hlt := h.lt
  have hs := hb.size
  have hb2 : Below w.heap.size w (w'.alloc (.cells (strV SS).toArray 9)) := hb.alloc hs _
  refine (cwput_any b r is w'.heap.size SS hz hN (by omega) _ (h.below hb2) (World.alloc_heap_new _ _)).mono ?_
  rintro v w'' ⟨rfl, h1, h2⟩
  exact ⟨rfl, h1, (KeptW.of_below hb2 (Nat.le_of_lt hlt)).trans h2⟩

set_option maxRecDepth 100000 in
theorem cwnum_any (b : Nat) (r : Wr) (n : Int) (hS : r.l.length ≤ 1000000) (w : World) (h : CwAt b r w) :
    Calls Tryd.prog 17 #[.pointer (some ⟨b, 0, none⟩), .int .i64 n] w fun v w' => v = .returned (.tuple #[]) ∧ CwAt b (r.num n) w' ∧ KeptW b w w' := by
  have hl := putM_len n
  have HP := Lib.hid (put_any n w)
  have HX := fun B => Lib.hid (cwput_new b r B [putM n] (by simp; omega) (by simp) w h)
  have HF : ∀ B : Bool, B = decide (0 ≤ n ∧ n ≤ 1073741824) → Hid (r.put B [putM n].flatten = r.num n) := fun B hB => Lib.hid (by rw [hB]; simp [Wr.num])
  by_cases h0 : 0 ≤ n ∧ n ≤ 1073741824
  · have HF := HF true (by simp [h0])
    have HX := Lib.hid ((HX true).out)
    have hne := putM_ne n h0
    obtain ⟨S, hS'⟩ : ∃ S : ByteArray, ⟨(putM n).toArray⟩ = S := ⟨_, rfl⟩
    have hie : S.toList.isEmpty = false := by
      rw [← hS', ByteArray.toList_eq]
      cases hc : putM n with
      | nil => exact absurd hc hne
      | cons a l => rfl
    have hie2 : (!S.toList.isEmpty) = true := by rw [hie]; rfl
    simp only [strV, List.map_cons, List.map_nil] at HX
    rw [HF.out] at HX
    change Hid (∀ w', Below w.heap.size w w' → Calls Tryd.prog 41 #[.pointer (some ⟨b, 0, none⟩), .bool true, .slice (some ⟨w'.heap.size, 0, none⟩) 1 1] (w'.alloc (.cells #[.string (bs (putM n))] 9)) fun v w'' => v = .returned (.tuple #[]) ∧ CwAt b (r.num n) w'' ∧ KeptW b w w'') at HX
    rw [show bs (putM n) = S from hS'] at HX
    rw [hS'] at HP
    clear h h0 hl hS hS' HF hne
    go_enter Tryd.func17, Tryd.ntmps17
    go_wp2_with fail
    refine HP.out.mono ?_
    rintro e w' ⟨rfl, hb⟩
    go_wp2_with fail
    refine (HX.out _ hb).mono ?_
    rintro e w'' ⟨rfl, hq1, hq2⟩
    have HQ := Lib.hid (And.intro hq1 hq2)
    clear hq1 hq2
    go_wp2_with fail
    go_end0
    exact ⟨rfl, HQ.out⟩
  · have HF := HF false (by simp only [decide_eq_false h0])
    have HX := Lib.hid ((HX false).out)
    have he : putM n = [] := by unfold putM; rw [if_neg h0]
    rw [HF.out] at HX
    rw [he] at HX HP
    change Hid (∀ w', Below w.heap.size w w' → Calls Tryd.prog 41 #[.pointer (some ⟨b, 0, none⟩), .bool false, .slice (some ⟨w'.heap.size, 0, none⟩) 1 1] (w'.alloc (.cells #[.string ⟨#[]⟩] 9)) fun v w'' => v = .returned (.tuple #[]) ∧ CwAt b (r.num n) w'' ∧ KeptW b w w'') at HX
    change Hid (Calls Tryd.prog 40 #[.int .i64 n] w fun e w' => e = .returned (.string ⟨#[]⟩) ∧ Below w.heap.size w w') at HP
    clear h h0 hl hS HF he
    go_enter Tryd.func17, Tryd.ntmps17
    go_wp2_with fail
    refine HP.out.mono ?_
    rintro e w' ⟨rfl, hb⟩
    go_wp2_with fail
    refine (HX.out _ hb).mono ?_
    rintro e w'' ⟨rfl, hq1, hq2⟩
    have HQ := Lib.hid (And.intro hq1 hq2)
    clear hq1 hq2
    go_wp2_with fail
    go_end0
    exact ⟨rfl, HQ.out⟩

set_option maxRecDepth 100000 in
theorem cwtxt_any (b : Nat) (r : Wr) (t : List UInt8) (hS : r.l.length + t.length ≤ 1000000) (w : World) (h : CwAt b r w) :
    Calls Tryd.prog 43 #[.pointer (some ⟨b, 0, none⟩), .string (bs t)] w fun v w' => v = .returned (.tuple #[]) ∧ CwAt b (r.txt t) w' ∧ KeptW b w w' := by
  have hl := putM_len (t.length : Int)
  have HX := fun B => Lib.hid (cwput_new b r B [putM t.length, t] (by simp; omega) (by simp) w h)
  have HF : ∀ B : Bool, B = decide (t.length ≤ 65536) → Hid (r.put B [putM t.length, t].flatten = r.txt t) := fun B hB => Lib.hid (by rw [hB]; simp [Wr.txt])
  obtain ⟨T, hT⟩ : ∃ T, bs t = T := ⟨_, rfl⟩
  obtain ⟨P, hP⟩ : ∃ P, bs (putM t.length) = P := ⟨_, rfl⟩
  have hz : T.size = t.length := by rw [← hT, bs_size]
  have HP := Lib.hid (put_any (t.length : Int) w)
  rw [show (⟨(putM (t.length : Int)).toArray⟩ : ByteArray) = P from hP, ← hz] at HP
  rw [hT]
  by_cases h0 : t.length ≤ 65536
  · have HF := HF true (by simp [h0])
    have HX := Lib.hid ((HX true).out)
    simp only [strV, List.map_cons, List.map_nil] at HX
    rw [HF.out, hP, hT] at HX
    change Hid (∀ w', Below w.heap.size w w' → Calls Tryd.prog 41 #[.pointer (some ⟨b, 0, none⟩), .bool true, .slice (some ⟨w'.heap.size, 0, none⟩) 2 2] (w'.alloc (.cells #[.string P, .string T] 9)) fun v w'' => v = .returned (.tuple #[]) ∧ CwAt b (r.txt t) w'' ∧ KeptW b w w'') at HX
    have h0' : (T.size : Int) ≤ 65536 := by omega
    clear h h0 hl hS HF hz hT hP
    go_enter Tryd.func43, Tryd.ntmps43
    go_wp2_with fail
    refine HP.out.mono ?_
    rintro e w' ⟨rfl, hb⟩
    go_wp2_with fail
    refine (HX.out _ hb).mono ?_
    rintro e w'' ⟨rfl, hq1, hq2⟩
    have HQ := Lib.hid (And.intro hq1 hq2)
    clear hq1 hq2
    go_wp2_with fail
    go_end0
    exact ⟨rfl, HQ.out⟩
  · have HF := HF false (by simp [h0])
    have HX := Lib.hid ((HX false).out)
    simp only [strV, List.map_cons, List.map_nil] at HX
    rw [HF.out, hP, hT] at HX
    change Hid (∀ w', Below w.heap.size w w' → Calls Tryd.prog 41 #[.pointer (some ⟨b, 0, none⟩), .bool false, .slice (some ⟨w'.heap.size, 0, none⟩) 2 2] (w'.alloc (.cells #[.string P, .string T] 9)) fun v w'' => v = .returned (.tuple #[]) ∧ CwAt b (r.txt t) w'' ∧ KeptW b w w'') at HX
    have h0' : ¬ (T.size : Int) ≤ 65536 := by omega
    clear h h0 hl hS HF hz hT hP
    go_enter Tryd.func43, Tryd.ntmps43
    go_wp2_with fail
    refine HP.out.mono ?_
    rintro e w' ⟨rfl, hb⟩
    go_wp2_with fail
    refine (HX.out _ hb).mono ?_
    rintro e w'' ⟨rfl, hq1, hq2⟩
    have HQ := Lib.hid (And.intro hq1 hq2)
    clear hq1 hq2
    go_wp2_with fail
    go_end0
    exact ⟨rfl, HQ.out⟩

theorem cellsU8 : Tryd.prog.cellsOf 5 = 1 := by kernel_rfl
set_option maxHeartbeats 1000000 in
set_option maxRecDepth 100000 in
theorem cwstring_any (b : Nat) (r : Wr) (w : World) (h : CwAt b r w) (h0 : r.l ≠ []) :
    Calls Tryd.prog 44 #[.pointer (some ⟨b, 0, none⟩)] w fun e w' => e = .returned (.string (bs r.l)) ∧ Below b w w' := by
  obtain ⟨p, v, hbk, hown, hne⟩ : ∃ p v, w.heap[b]? = some (.cells #[p, v, .int .i64 r.e] 48 (0, 0)) ∧ w.ownsRow b 5 1 v r.l.length (Lib.byteCells r.l) ∧ v.ownBlock ≠ some b := by
    rcases h with ⟨v, h1, h2, h3⟩ | ⟨v, h1, h2, h3⟩
    · exact ⟨_, v, h1, h2, h3⟩
    · exact ⟨_, v, h1, h2, h3⟩
  obtain ⟨l, e⟩ := r
  simp only at h0 hbk hown
  have hl0 : l.length ≠ 0 := by simpa using h0
  obtain ⟨g, cap, cur, rfl, hbg, hg, hnc, hcm, hcs, htake⟩ : ∃ g cap cur, v = .slice (some ⟨g, 0, none⟩) l.length cap ∧ b ≤ g ∧ w.heap[g]? = some (.cells cur 5 (0, 0)) ∧ l.length ≤ cap ∧ cap ≤ maxLen ∧ cur.size = cap * 1 ∧ cur.toList.take (l.length * 1) = Lib.byteCells l := by
    rcases hown.2 with ⟨_, hz⟩ | ⟨g, cap, cur, hv, r⟩
    · exact absurd hz hl0
    · exact ⟨g, cap, cur, hv, r⟩
  have c1 : w.drew.cell? ⟨b, 1, none⟩ = some (.slice (some ⟨g, 0, none⟩) l.length cap) := by
    have : w.drew.heap[b]? = some (.cells #[p, .slice (some ⟨g, 0, none⟩) l.length cap, .int .i64 e] 48 (0, 0)) := hbk
    rw [Lib.cell_of_heap this]; rfl
  have c2 : w.cell? ⟨b, 1, none⟩ = some (.slice (some ⟨g, 0, none⟩) l.length cap) := c1
  have hSD : (Builtin.unsafeSliceData_ #[44] 101 #[.slice (some ⟨g, 0, none⟩) l.length cap]).run Tryd.prog w.drew = .ok (.pointer (some ⟨g, 0, none⟩)) w.drew :=
    Lib.run_unsafeSliceData_row _ _ _ _ _ _ (by omega)
  have hUS : (Builtin.unsafeString_ #[101, 3] 9 #[.pointer (some ⟨g, 0, none⟩), .int .i64 l.length]).run Tryd.prog w.drew = .ok (.string ⟨l.toArray⟩) (w.drew.freeze ⟨g, 0, none⟩ l.length) := by
    refine Lib.run_unsafeString_row w.drew 101 3 9 5 Tryd.underlying101 cellsU8 g cur.size (by have hg' : w.drew.heap[g]? = some (.cells cur 5 (0, 0)) := hg; simp [World.shape?, hg']) l h0 (by omega) (by unfold maxLen at hcm; omega) ?_
    intro j x hx
    have := hown.cells (g := g) rfl j (.int .u8 x.toNat) (by simp [Lib.byteCells, hx])
    exact this
  have HBF := Lib.hid (Lib.below_freeze (Below.drew (Below.refl b w)) (p := ⟨g, 0, none⟩) hbg l.length)
  clear hbk hown hne hg hnc hcm hcs htake h
  have mixed : Tryd.prog.follows Departure.mixedOrders = true := by kernel_rfl
  go_enter Tryd.func44, Tryd.ntmps44
  go_wp2
  go_region_o
  all_goals (go_wp2; go_ret; exact ⟨rfl, HBF.out⟩)

set_option maxRecDepth 100000 in
theorem cwdone_any (b : Nat) (r : Wr) (h0 : r.e = 0 → r.l ≠ []) (w : World) (h : CwAt b r w) :
    Calls Tryd.prog 19 #[.pointer (some ⟨b, 0, none⟩)] w fun v w' => v = .returned (.tuple #[.string (bs r.out), .int .i64 r.e]) ∧ Below b w w' := by
  have c2 := h.cell2.1
  obtain ⟨l, e⟩ := r
  simp only at c2 h0
  have hlt := h.lt
  by_cases he : e = 0
  · subst he
    have HS := Lib.hid (cwstring_any b ⟨l, 0⟩ w h (h0 rfl))
    have HO : Hid (Wr.out ⟨l, 0⟩ = l) := by unfold Hid Wr.out; simp
    rw [HO.out]
    clear h h0
    go_enter Tryd.func19, Tryd.ntmps19
    go_wp2_with fail
    refine HS.out.mono ?_
    rintro v w' ⟨rfl, hb⟩
    have HB := Lib.hid hb
    clear hb
    go_wp2_with fail
    go_ret2
    exact ⟨rfl, HB.out⟩
  · have he2 : (e == 0) = false := by simpa using he
    have he3 : (e != 0) = true := by simpa using he
    have HO : Hid (Wr.out ⟨l, e⟩ = []) := by unfold Hid Wr.out; simp [he]
    rw [HO.out]
    clear h h0 he
    go_enter Tryd.func19, Tryd.ntmps19
    go_wp2_with fail
    go_quiet (fail)
    go_wp2_with fail
    go_ret2
    exact ⟨rfl, (Below.refl b w).trans ⟨rfl, rfl, rfl, Nat.le_refl _, fun _ _ => rfl⟩⟩
end Go.Proofs.YtjmfdacnaodfdaaDoor

namespace Go.Proofs.YtjmfdacnaodfdaaDoor
set_option linter.unusedVariables false
set_option linter.unusedSimpArgs false
open Go.RowKit

theorem takeM_shape (l : List UInt8) : ∃ (N K : Nat) (e : Int), takeM l = ((N : Int), (K : Int), e) ∧ N ≤ 1073741824 ∧ (e = 0 → K ≤ l.length ∧ 1 ≤ K) ∧ 0 ≤ e := by
  unfold takeM
  split
  · split
    · exact ⟨0, 0, 5, rfl, by omega, by omega, by omega⟩
    · exact ⟨0, 0, 2, rfl, by omega, by omega, by omega⟩
  · rename_i i hi
    have hl := endM_lt l 5 i hi
    split
    · exact ⟨0, 0, 7, rfl, by omega, by omega, by omega⟩
    · split
      · exact ⟨0, 0, 2, rfl, by omega, by omega, by omega⟩
      · exact ⟨valM (l.take (i + 1)), i + 1, 0, by simp, by omega, by omega, by omega⟩

theorem cnumber_any (most : Int) (w : World) :
    Calls Tryd.prog 57 #[.int .i64 most] w fun e w' => e = .returned (.func (.func 67) #[] #[.pointer (some ⟨w.heap.size, 0, none⟩)]) ∧ w.alloc (.cells #[.int .i64 most] 3) = w' := by
  go_enter Tryd.func57, Tryd.ntmps57
  go_wp2
  go_ret
  exact ⟨rfl, rfl⟩

/-- What a piece that is a number answers. -/
def pieceM (l : List UInt8) (most : Int) : Int × Int × Int := ((takeM l).1, (takeM l).2.1, numE l most)
set_option maxRecDepth 100000 in
theorem cnumber1_any (l : List UInt8) (most : Int) (m : Nat) (w : World) (hc : w.cell? ⟨m, 0, none⟩ = some (.int .i64 most)) :
    Calls Tryd.prog 67 #[.string (bs l), .pointer (some ⟨m, 0, none⟩)] w fun e w' => e = .returned (.tuple #[.int .i64 (pieceM l most).1, .int .i64 (pieceM l most).2.1, .int .i64 (pieceM l most).2.2]) ∧ w = w' := by
  obtain ⟨N, K, e, ht, hN, hK, he0⟩ := takeM_shape l
  have HT := Lib.hid (ctake_any (bs l) w)
  have e1 : (bs l).data.toList = l := rfl
  rw [e1, ht] at HT
  obtain ⟨S, hS⟩ : ∃ S, bs l = S := ⟨_, rfl⟩
  rw [hS] at HT ⊢
  simp only [pieceM, numE]
  rw [ht]
  simp only at HT ⊢
  clear hK ht e1 hS he0
  by_cases hb : e = 0
  · subst hb
    by_cases hm : most < (N : Int)
    · rw [if_pos ⟨rfl, hm⟩]
      go_enter Tryd.func67, Tryd.ntmps67
      go_wp2_with fail
      refine HT.out.mono ?_
      rintro v w' ⟨rfl, rfl⟩
      go_wp2_with fail
      refine bodyPost_ret (v := .tuple #[.int .i64 N, .int .i64 K, .int .i64 2]) (by simp [results, Tryd.results67, go_sem]) rfl ⟨rfl, rfl⟩
    · rw [if_neg (fun h => hm h.2)]
      go_enter Tryd.func67, Tryd.ntmps67
      go_wp2_with fail
      refine HT.out.mono ?_
      rintro v w' ⟨rfl, rfl⟩
      go_wp2_with fail
      refine bodyPost_ret (v := .tuple #[.int .i64 N, .int .i64 K, .int .i64 0]) (by simp [results, Tryd.results67, go_sem]) rfl ⟨rfl, rfl⟩
  · rw [if_neg (fun h => hb h.1)]
    have he2 : (e == 0) = false := by simpa using hb
    clear hb
    go_enter Tryd.func67, Tryd.ntmps67
    go_wp2_with fail
    refine HT.out.mono ?_
    rintro v w' ⟨rfl, rfl⟩
    go_wp2_with fail
    refine bodyPost_ret (v := .tuple #[.int .i64 N, .int .i64 K, .int .i64 e]) (by simp [results, Tryd.results67, go_sem]) rfl ⟨rfl, rfl⟩

theorem RdAt.cells {T : TypeId} {w : World} {b : Nat} {r : Rd} (h : RdAt T w b r) : w.cell? ⟨b, 0, none⟩ = some (.string (bs r.l)) ∧ w.cell? ⟨b, 1, none⟩ = some (.int .i64 r.e) ∧ w.frozen? ⟨b, 0, none⟩ = false ∧ w.frozen? ⟨b, 1, none⟩ = false :=
  ⟨by rw [Lib.cell_of_heap h]; rfl, by rw [Lib.cell_of_heap h]; rfl, Lib.frozen_of_heap h 0, Lib.frozen_of_heap h 1⟩
theorem RdAt.lt {T : TypeId} {w : World} {b : Nat} {r : Rd} (h : RdAt T w b r) : b < w.heap.size := by
  rcases Nat.lt_or_ge b w.heap.size with h' | h'
  · exact h'
  · unfold RdAt RAt at h
    simp [Array.getElem?_eq_none h'] at h
theorem RdAt.below {T : TypeId} {w w' : World} {b : Nat} {r : Rd} (h : RdAt T w b r) (hb : Below w.heap.size w w') : RdAt T w' b r := by
  have hlt := h.lt
  unfold RdAt RAt at h ⊢
  rw [hb.block b hlt]
  exact h

set_option maxRecDepth 100000 in
theorem ctakei_any (b m : Nat) (r : Rd) (most : Int) (w : World) (h : RdAt 88 w b r) (hc : w.cell? ⟨m, 0, none⟩ = some (.int .i64 most)) :
    Calls Tryd.prog 56 #[.pointer (some ⟨b, 0, none⟩), .func (.func 67) #[] #[.pointer (some ⟨m, 0, none⟩)]] w fun v w' => v = .returned (.int .i64 (r.num most).1) ∧ RdAt 88 w' b (r.num most).2 ∧ KeptBut b w w' := by
  obtain ⟨c0, c1, z0, z1⟩ := h.cells
  have HH := Lib.hid h
  have HE := Lib.hid (cerr_any b (bs r.l) r.e w h)
  obtain ⟨l, e⟩ := r
  simp only at c0 c1 HE
  by_cases he : e = 0
  · subst he
    have HP := Lib.hid (cnumber1_any l most m w hc)
    by_cases hE : numE l most = 0
    · obtain ⟨N, K, ht, hm, hK, hK1, hN⟩ := numE_ok hE
      have HX : Hid (Rd.num ⟨l, 0⟩ most = ((N : Int), ⟨l.drop K, 0⟩)) := by unfold Hid Rd.num; simp [hE, ht]
      have HD : Hid ((bs l).extract K (bs l).size = bs (l.drop K)) := Lib.hid (bs_ext_to l K hK)
      rw [HX.out]
      simp only [pieceM] at HP
      rw [ht, hE] at HP
      simp only at HP ⊢
      have hK2 : (K : Int) ≤ (bs l).size := by rw [bs_size]; omega
      obtain ⟨S, hS⟩ : ∃ S, bs l = S := ⟨_, rfl⟩
      rw [hS] at HP HD hK2 c0
      have hK0 : (0 : Int) ≤ K := by omega
      have HF : Hid (∀ T, S.extract K S.size = T → RdAt 88 (w.setCell ⟨b, 0, none⟩ (.string T)) b ⟨l.drop K, 0⟩) := Lib.hid (fun T hT => by rw [HD.out] at hT; subst hT; exact RAt.set0 HH.out (bs (l.drop K)))
      clear h hc hE ht hm hK hK1 hN hS
      go_enter Tryd.func56, Tryd.ntmps56
      go_wp2_with fail
      refine HE.out.mono ?_
      rintro v w' ⟨rfl, rfl⟩
      go_wp2_with fail
      refine HP.out.mono ?_
      rintro v w' ⟨rfl, rfl⟩
      go_wp2_with fail
      go_ret
      exact ⟨rfl, HF.out _ rfl, KeptBut.set _ _ _ _⟩
    · have HX : Hid (Rd.num ⟨l, 0⟩ most = (0, ⟨l, numE l most⟩)) := by unfold Hid Rd.num; simp [hE]
      rw [HX.out]
      simp only [pieceM] at HP ⊢
      obtain ⟨er, her⟩ : ∃ er, numE l most = er := ⟨_, rfl⟩
      rw [her] at HP hE ⊢
      obtain ⟨n1, hn1⟩ : ∃ n1, (takeM l).1 = n1 := ⟨_, rfl⟩
      obtain ⟨n2, hn2⟩ : ∃ n2, (takeM l).2.1 = n2 := ⟨_, rfl⟩
      rw [hn1, hn2] at HP
      have he2 : (er == 0) = false := by simpa using hE
      have he3 : (er != 0) = true := by simpa using hE
      clear h hc hE hn1 hn2 her
      go_enter Tryd.func56, Tryd.ntmps56
      go_wp2_with fail
      refine HE.out.mono ?_
      rintro v w' ⟨rfl, rfl⟩
      go_wp2_with fail
      refine HP.out.mono ?_
      rintro v w' ⟨rfl, rfl⟩
      go_wp2_with fail
      go_ret
      exact ⟨rfl, RAt.set1 HH.out er, KeptBut.set _ _ _ _⟩
  · have HX : Hid (Rd.num ⟨l, e⟩ most = (0, ⟨l, e⟩)) := by unfold Hid Rd.num; simp [he]
    rw [HX.out]
    have he2 : (e == 0) = false := by simpa using he
    have he3 : (e != 0) = true := by simpa using he
    clear h hc he
    go_enter Tryd.func56, Tryd.ntmps56
    go_wp2_with fail
    refine HE.out.mono ?_
    rintro v w' ⟨rfl, rfl⟩
    go_wp2_with fail
    go_ret
    exact ⟨rfl, HH.out, KeptBut.refl _ _⟩

theorem cnum_any (b : Nat) (r : Rd) (most : Int) (w : World) (h : RdAt 88 w b r) :
    Calls Tryd.prog 31 #[.pointer (some ⟨b, 0, none⟩), .int .i64 most] w fun v w' => v = .returned (.int .i64 (r.num most).1) ∧ RdAt 88 w' b (r.num most).2 ∧ KeptBut b w w' := by
  have hlt := h.lt
  have HN := Lib.hid (cnumber_any most w)
  have hb : Below w.heap.size w (w.alloc (.cells #[.int .i64 most] 3)) := (Below.refl _ _).alloc (Nat.le_refl _) _
  have HT := Lib.hid (ctakei_any b w.heap.size r most (w.alloc (.cells #[.int .i64 most] 3)) (h.below hb) (by rw [Lib.cell_of_heap (World.alloc_heap_new w _)]; rfl))
  have HK := Lib.hid (KeptBut.of_below (b := b) hb)
  clear h hb
  go_enter Tryd.func31, Tryd.ntmps31
  go_wp2_with fail
  refine HN.out.mono ?_
  rintro v w' ⟨rfl, rfl⟩
  go_wp2_with fail
  refine HT.out.mono ?_
  rintro v w' ⟨rfl, h1, h2⟩
  have HQ := Lib.hid (And.intro h1 (HK.out.trans h2))
  clear h1 h2
  go_wp2_with fail
  go_ret
  exact ⟨rfl, HQ.out⟩
end Go.Proofs.YtjmfdacnaodfdaaDoor

namespace Go.Proofs.YtjmfdacnaodfdaaDoor
set_option linter.unusedVariables false
set_option linter.unusedSimpArgs false
open Go.RowKit

theorem bs_ext_mid (l : List UInt8) (k n : Nat) : (bs l).extract k (k + n) = bs ((l.drop k).take n) := by
  apply ByteArray.ext
  apply Array.toList_inj.1
  simp

theorem cell_below_iff {w w' : World} {b : Nat} (hb : Below w.heap.size w w') (h : b < w.heap.size) (o : Nat) : w'.cell? ⟨b, o, none⟩ = w.cell? ⟨b, o, none⟩ := hb.cell (p := ⟨b, o, none⟩) h
/-- What a piece that is a text answers. -/
def pieceT (l : List UInt8) (most : Int) : List UInt8 × Int × Int :=
  if numE l most ≠ 0 then ([], 0, numE l most) else
  if l.length < (takeM l).2.1.toNat + (takeM l).1.toNat then ([], 0, 5) else
  ((l.drop (takeM l).2.1.toNat).take (takeM l).1.toNat, (((takeM l).2.1.toNat + (takeM l).1.toNat : Nat) : Int), 0)
theorem w64_sub (a b : Nat) (ha : a ≤ 9223372036854775807) (hb : b ≤ 1073741824) : wrap64 ((a : Int) - b) = (a : Int) - b := wrap64_id _ (by omega) (by omega)
theorem w64_add (a b : Nat) (ha : a ≤ 1073741824) (hb : b ≤ 1073741824) : wrap64 ((a : Int) + b) = ((a + b : Nat) : Int) := by rw [wrap64_id _ (by omega) (by omega)]; omega

set_option maxRecDepth 100000 in
theorem ctext1_any (l : List UInt8) (hl : l.length ≤ 9223372036854775807) (most : Int) (m : Nat) (w : World) (hc : w.cell? ⟨m, 0, none⟩ = some (.int .i64 most)) :
    Calls Tryd.prog 70 #[.string (bs l), .pointer (some ⟨m, 0, none⟩)] w fun e w' => e = .returned (.tuple #[.string (bs (pieceT l most).1), .int .i64 (pieceT l most).2.1, .int .i64 (pieceT l most).2.2]) ∧ Below w.heap.size w w' := by
  have HN := Lib.hid (cnumber_any most w)
  have hb : Below w.heap.size w (w.alloc (.cells #[.int .i64 most] 3)) := (Below.refl _ _).alloc (Nat.le_refl _) _
  have HB := Lib.hid hb
  have HP := Lib.hid (cnumber1_any l most w.heap.size (w.alloc (.cells #[.int .i64 most] 3)) (by rw [Lib.cell_of_heap (World.alloc_heap_new w _)]; rfl))
  simp only [pieceM] at HP
  by_cases hE : numE l most = 0
  · obtain ⟨N, K, ht, hmo, hK, hK1, hNN⟩ := numE_ok hE
    have hK30 : K ≤ 1073741824 := by
      obtain ⟨N', K', e', h1, h2, h3, h4⟩ := takeM_shape l
      have h5 : K ≤ 5 := by
        unfold takeM at ht
        split at ht
        · split at ht <;> simp at ht
        · rename_i i hi
          have := endM_lt l 5 i hi
          split at ht
          · simp at ht
          · split at ht
            · simp at ht
            · simp only [Prod.mk.injEq] at ht
              omega
      omega
    rw [ht, hE] at HP
    simp only at HP
    have hsub := w64_sub l.length K hl hK30
    have hsub2 : (l.length : Int) - K = ((l.length - K : Nat) : Int) := by omega
    obtain ⟨S, hS⟩ : ∃ S, bs l = S := ⟨_, rfl⟩
    have hz : S.size = l.length := by rw [← hS, bs_size]
    by_cases hs : l.length < K + N
    · have HX : Hid (pieceT l most = ([], 0, 5)) := by unfold Hid pieceT; simp [hE, ht, hs]
      rw [HX.out]
      have hgt : (S.size : Int) - K < N := by omega
      rw [hS] at HP ⊢
      rw [← hz] at hsub
      clear hE ht hmo hK hK1 hNN hK30 hS hs hl hb hz hsub2
      go_enter Tryd.func70, Tryd.ntmps70
      go_wp2_with fail
      refine HN.out.mono ?_
      rintro v w' ⟨rfl, rfl⟩
      go_wp2_with fail
      refine HP.out.mono ?_
      rintro v w' ⟨rfl, rfl⟩
      go_wp2_with fail
      refine bodyPost_ret (v := .tuple #[.string (bs []), .int .i64 0, .int .i64 5]) (by simp [results, Tryd.results70, go_sem]) rfl ⟨rfl, HB.out⟩
    · have HX : Hid (pieceT l most = ((l.drop K).take N, ((K + N : Nat) : Int), 0)) := by unfold Hid pieceT; simp [hE, ht, hs]
      have HD : Hid (S.extract K (K + N) = bs ((l.drop K).take N)) := Lib.hid (by rw [← hS]; exact bs_ext_mid l K N)
      rw [HX.out]
      have hgt : ¬ (S.size : Int) - K < N := by omega
      have hadd := w64_add K N hK30 hNN
      obtain ⟨Q, hQ⟩ : ∃ Q : Nat, K + N = Q := ⟨_, rfl⟩
      rw [hQ] at hadd HD
      have hq1 : (Q : Int) ≤ S.size := by omega
      have hq2 : (K : Int) ≤ Q := by omega
      have hq0 : (0 : Int) ≤ K := by omega
      rw [hS] at HP ⊢
      rw [← hz] at hsub
      rw [hQ]
      simp only
      rw [← HD.out]
      clear hE ht hmo hK hK1 hNN hK30 hS hs hl hb hz hQ hsub2
      go_enter Tryd.func70, Tryd.ntmps70
      go_wp2_with fail
      refine HN.out.mono ?_
      rintro v w' ⟨rfl, rfl⟩
      go_wp2_with fail
      refine HP.out.mono ?_
      rintro v w' ⟨rfl, rfl⟩
      go_wp2_with fail
      refine bodyPost_ret (v := .tuple #[.string (S.extract K Q), .int .i64 Q, .int .i64 0]) (by simp [results, Tryd.results70, go_sem, hadd]) rfl ⟨rfl, HB.out⟩
  · have HX : Hid (pieceT l most = ([], 0, numE l most)) := by unfold Hid pieceT; simp [hE]
    rw [HX.out]
    obtain ⟨er, her⟩ : ∃ er, numE l most = er := ⟨_, rfl⟩
    rw [her] at HP hE ⊢
    obtain ⟨n1, hn1⟩ : ∃ n1, (takeM l).1 = n1 := ⟨_, rfl⟩
    obtain ⟨n2, hn2⟩ : ∃ n2, (takeM l).2.1 = n2 := ⟨_, rfl⟩
    rw [hn1, hn2] at HP
    obtain ⟨S, hS⟩ : ∃ S, bs l = S := ⟨_, rfl⟩
    rw [hS] at HP ⊢
    have he2 : (er == 0) = false := by simpa using hE
    have he3 : (er != 0) = true := by simpa using hE
    clear hE hn1 hn2 her hl hb hS
    go_enter Tryd.func70, Tryd.ntmps70
    go_wp2_with fail
    refine HN.out.mono ?_
    rintro v w' ⟨rfl, rfl⟩
    go_wp2_with fail
    refine HP.out.mono ?_
    rintro v w' ⟨rfl, rfl⟩
    go_wp2_with fail
    refine bodyPost_ret (v := .tuple #[.string (bs []), .int .i64 0, .int .i64 er]) (by simp [results, Tryd.results70, go_sem]) rfl ⟨rfl, HB.out⟩

set_option maxRecDepth 100000 in
theorem ctakes_any (b m : Nat) (r : Rd) (hl : r.l.length ≤ 9223372036854775807) (most : Int) (w : World) (h : RdAt 88 w b r) (hc : w.cell? ⟨m, 0, none⟩ = some (.int .i64 most)) :
    Calls Tryd.prog 69 #[.pointer (some ⟨b, 0, none⟩), .func (.func 70) #[] #[.pointer (some ⟨m, 0, none⟩)]] w fun v w' => v = .returned (.string (bs (r.txt most).1)) ∧ RdAt 88 w' b (r.txt most).2 ∧ KeptBut b w w' := by
  obtain ⟨c0, c1, z0, z1⟩ := h.cells
  have HH := Lib.hid h
  have HE := Lib.hid (cerr_any b (bs r.l) r.e w h)
  obtain ⟨l, e⟩ := r
  simp only at c0 c1 HE hl
  by_cases he : e = 0
  · subst he
    have HP := Lib.hid (ctext1_any l hl most m w hc)
    by_cases hok : (pieceT l most).2.2 = 0
    · obtain ⟨N, K, hx, hp, hlen⟩ : ∃ N K : Nat, Rd.txt ⟨l, 0⟩ most = ((l.drop K).take N, ⟨(l.drop K).drop N, 0⟩) ∧ pieceT l most = ((l.drop K).take N, ((K + N : Nat) : Int), 0) ∧ K + N ≤ l.length := by
        unfold pieceT at hok ⊢
        unfold Rd.txt
        simp only
        by_cases hE : numE l most ≠ 0
        · rw [if_pos hE] at hok
          exact absurd hok hE
        · rw [if_neg hE] at hok ⊢
          rw [if_neg (by simp), if_neg hE]
          by_cases hs : l.length < (takeM l).2.1.toNat + (takeM l).1.toNat
          · rw [if_pos hs] at hok
            simp at hok
          · rw [if_neg hs, if_neg hs]
            exact ⟨_, _, rfl, rfl, by omega⟩
      have HX := Lib.hid hx
      rw [HX.out]
      rw [hp] at HP
      simp only at HP ⊢
      have HD : Hid ((bs l).extract (K + N) (bs l).size = bs ((l.drop K).drop N)) := Lib.hid (by rw [bs_ext_to l (K + N) hlen, List.drop_drop])
      obtain ⟨Q, hQ⟩ : ∃ Q : Nat, K + N = Q := ⟨_, rfl⟩
      rw [hQ] at HP HD hlen
      have hq1 : (Q : Int) ≤ (bs l).size := by rw [bs_size]; omega
      have hq0 : (0 : Int) ≤ Q := by omega
      obtain ⟨S, hS⟩ : ∃ S, bs l = S := ⟨_, rfl⟩
      obtain ⟨T, hT⟩ : ∃ T, bs ((l.drop K).take N) = T := ⟨_, rfl⟩
      have HLT := Lib.hid h.lt
      rw [hS] at HP HD hq1 c0
      rw [hT] at HP
      rw [hT]
      have HF : Hid (∀ w', Below w.heap.size w w' → ∀ T, S.extract Q S.size = T → RdAt 88 (w'.setCell ⟨b, 0, none⟩ (.string T)) b ⟨(l.drop K).drop N, 0⟩) := Lib.hid (fun w' hw T hT => by rw [HD.out] at hT; subst hT; exact RAt.set0 (RdAt.below HH.out hw) (bs ((l.drop K).drop N)))
      clear h hc hx hp hlen hQ hok hS hT hl
      go_enter Tryd.func69, Tryd.ntmps69
      go_wp2_with fail
      refine HE.out.mono ?_
      rintro v w' ⟨rfl, rfl⟩
      go_wp2_with fail
      refine HP.out.mono ?_
      rintro v w' ⟨rfl, hb⟩
      obtain ⟨d0, d1, y0, y1⟩ := (RdAt.below HH.out hb).cells
      have HB := Lib.hid hb
      simp only at d0 d1
      have d0' : w'.cell? ⟨b, 0, none⟩ = some (.string S) := by rw [← c0]; exact cell_below_iff HB.out HLT.out 0
      clear hb d0 c0
      go_wp2_with fail
      go_ret
      exact ⟨rfl, HF.out _ HB.out _ rfl, (KeptBut.of_below HB.out).trans (KeptBut.set _ _ _ _)⟩
    · obtain ⟨er, hx, hp, hne⟩ : ∃ er, Rd.txt ⟨l, 0⟩ most = ([], ⟨l, er⟩) ∧ pieceT l most = ([], 0, er) ∧ er ≠ 0 := by
        unfold pieceT at hok ⊢
        unfold Rd.txt
        simp only
        by_cases hE : numE l most ≠ 0
        · rw [if_pos hE, if_neg (by simp), if_pos hE]
          exact ⟨_, rfl, rfl, hE⟩
        · rw [if_neg hE] at hok ⊢
          rw [if_neg (by simp), if_neg hE]
          by_cases hs : l.length < (takeM l).2.1.toNat + (takeM l).1.toNat
          · rw [if_pos hs, if_pos hs]
            exact ⟨_, rfl, rfl, by simp⟩
          · rw [if_neg hs] at hok
            exact absurd rfl hok
      have HX := Lib.hid hx
      rw [HX.out]
      rw [hp] at HP
      simp only at HP ⊢
      have he2 : (er == 0) = false := by simpa using hne
      have he3 : (er != 0) = true := by simpa using hne
      clear h hc hx hp hok hne hl
      go_enter Tryd.func69, Tryd.ntmps69
      go_wp2_with fail
      refine HE.out.mono ?_
      rintro v w' ⟨rfl, rfl⟩
      go_wp2_with fail
      refine HP.out.mono ?_
      rintro v w' ⟨rfl, hb⟩
      obtain ⟨d0, d1, y0, y1⟩ := (RdAt.below HH.out hb).cells
      have HB := Lib.hid hb
      clear hb d0 c0
      go_wp2_with fail
      go_ret
      exact ⟨rfl, RAt.set1 (RdAt.below HH.out HB.out) er, (KeptBut.of_below HB.out).trans (KeptBut.set _ _ _ _)⟩
  · have HX : Hid (Rd.txt ⟨l, e⟩ most = ([], ⟨l, e⟩)) := by unfold Hid Rd.txt; simp [he]
    rw [HX.out]
    have he2 : (e == 0) = false := by simpa using he
    have he3 : (e != 0) = true := by simpa using he
    clear h hc he hl
    go_enter Tryd.func69, Tryd.ntmps69
    go_wp2_with fail
    refine HE.out.mono ?_
    rintro v w' ⟨rfl, rfl⟩
    go_wp2_with fail
    go_ret
    exact ⟨rfl, HH.out, KeptBut.refl _ _⟩

theorem ctxt_any (b : Nat) (r : Rd) (hl : r.l.length ≤ 9223372036854775807) (most : Int) (w : World) (h : RdAt 88 w b r) :
    Calls Tryd.prog 58 #[.pointer (some ⟨b, 0, none⟩), .int .i64 most] w fun v w' => v = .returned (.string (bs (r.txt most).1)) ∧ RdAt 88 w' b (r.txt most).2 ∧ KeptBut b w w' := by
  have hlt := h.lt
  have hb : Below w.heap.size w (w.alloc (.cells #[.int .i64 most] 3)) := (Below.refl _ _).alloc (Nat.le_refl _) _
  have HT := Lib.hid (ctakes_any b w.heap.size r hl most (w.alloc (.cells #[.int .i64 most] 3)) (h.below hb) (by rw [Lib.cell_of_heap (World.alloc_heap_new w _)]; rfl))
  have HK := Lib.hid (KeptBut.of_below (b := b) hb)
  have hmf : ∀ (fn : Fn) (first cap : Array Value) (w : World), (Instr.makeFunc fn first cap).run Tryd.prog w = .ok (.func fn first cap) w := fun _ _ _ _ => rfl
  clear h hb hl
  go_enter Tryd.func58, Tryd.ntmps58
  go_wp2_with fail
  refine HT.out.mono ?_
  rintro v w' ⟨rfl, h1, h2⟩
  have HQ := Lib.hid (And.intro h1 (HK.out.trans h2))
  clear h1 h2
  go_wp2_with fail
  go_ret
  exact ⟨rfl, HQ.out⟩
end Go.Proofs.YtjmfdacnaodfdaaDoor

namespace Go.Proofs.YtjmfdacnaodfdaaDoor
set_option linter.unusedVariables false
set_option linter.unusedSimpArgs false
open Go.RowKit

theorem str_one (x : Int) (n : Nat) (h : x % 256 = (n : Int)) (hn : n < 256) : strOfNums ([x % 256] : List Int) = bs [UInt8.ofNat n] := by
  rw [h]
  apply ByteArray.ext
  apply Array.toList_inj.1
  simp [strOfNums]
theorem rput_f : ∀ (m n : Nat), n ≤ m → n ≤ 1073741824 → ∃ k, PTP.hearsayref01_Put.f k (n : Int) = some (bs (groupsL n))
  | m, n, hm, hn => by
    have h0 : ¬ (n : Int) < 0 := by omega
    have h1 : ¬ (n : Int) > 1073741824 := by omega
    by_cases h : n < 128
    · refine ⟨2, ?_⟩
      unfold PTP.hearsayref01_Put.f
      rw [if_neg h0, decide_eq_false h1]
      unfold PTP.hearsayref01_Put.j0
      rw [if_neg (by simp), if_pos (by omega), str_one (n : Int) n (by omega) (by omega), groupsL_small n h]
    · cases m with
      | zero => omega
      | succ m =>
        obtain ⟨k, hk⟩ := rput_f m (n / 128) (by omega) (by omega)
        refine ⟨k + 2, ?_⟩
        have e1 : Int.tdiv (n : Int) 128 = ((n / 128 : Nat) : Int) := by rw [Int.tdiv_eq_ediv_of_nonneg (by omega)]; omega
        have e2 : Int.tmod (n : Int) 128 = ((n % 128 : Nat) : Int) := by rw [Int.tmod_eq_emod_of_nonneg (by omega)]; omega
        unfold PTP.hearsayref01_Put.f
        rw [if_neg h0, decide_eq_false h1]
        unfold PTP.hearsayref01_Put.j0
        rw [if_neg (by simp), if_neg (by omega), e1, e2, wrap64_id _ (by omega) (by omega), wrap64_id _ (by omega) (by omega), hk]
        simp only [Option.bind_some]
        have hl := groupsL_len (n / 128) (by omega)
        rw [str_one _ (n % 128 + 128) (by omega) (by omega), if_pos (by rw [bs_size, bs_size]; simp; omega), groupsL_big n h, bs_append]
        rfl
theorem rput_any (n : Int) (w : World) :
    Calls Tryd.prog 46 #[.int .i64 n] w fun e w' => e = .returned (.string (bs (putM n))) ∧ Below w.heap.size w w' := by
  unfold putM
  by_cases h : 0 ≤ n ∧ n ≤ 1073741824
  · rw [if_pos h]
    obtain ⟨N, rfl⟩ := Int.eq_ofNat_of_zero_le h.1
    obtain ⟨k, hk⟩ := rput_f N N (Nat.le_refl _) (by omega)
    simp only [Int.toNat_natCast]
    exact PTP.hearsayref01_Put.calls k _ _ w hk
  · rw [if_neg h]
    refine PTP.hearsayref01_Put.calls 2 n _ w ?_
    unfold PTP.hearsayref01_Put.f
    by_cases h0 : n < 0
    · rw [if_pos h0]
      unfold PTP.hearsayref01_Put.j0
      rw [if_pos rfl]
    · rw [if_neg h0, decide_eq_true (show n > 1073741824 by omega)]
      unfold PTP.hearsayref01_Put.j0
      rw [if_pos rfl]

theorem WAt.below {w w' : World} {b : Nat} {S : ByteArray} {e : Int} (h : WAt w b S e) (hb : Below w.heap.size w w') : WAt w' b S e := by
  unfold WAt at h ⊢
  have hlt : b < w.heap.size := by
    rcases Nat.lt_or_ge b w.heap.size with h' | h'
    · exact h'
    · simp [Array.getElem?_eq_none h'] at h
  rw [hb.block b hlt]
  exact h
set_option maxRecDepth 100000 in
theorem wnum_any' (b : Nat) (r : Wr) (n : Int) (hS : r.l.length ≤ 1000000000 ) (w : World) (h : WrAt w b r) :
    Calls Tryd.prog 20 #[.pointer (some ⟨b, 0, none⟩), .int .i64 n] w fun v w' => v = .returned (.tuple #[]) ∧ WrAt w' b (r.num n) ∧ KeptBut b w w' := by
  have hl := putM_len n
  have HP := Lib.hid (rput_any n w)
  have HH := Lib.hid h
  have HW : ∀ B : Bool, Hid (B = decide (0 ≤ n ∧ n ≤ 1073741824) → ∀ w', Below w.heap.size w w' → Calls Tryd.prog 45 #[.pointer (some ⟨b, 0, none⟩), .bool B, .string (bs (putM n))] w' fun v w'' => v = .returned (.tuple #[]) ∧ WrAt w'' b (r.num n) ∧ KeptBut b w w'') := by
    intro B
    refine Lib.hid fun hB w' hb => ?_
    subst hB
    refine (wput_any' b r _ (putM n) (by omega) w' (WAt.below h hb)).mono ?_
    rintro v w'' ⟨rfl, h1, h2⟩
    exact ⟨rfl, h1, (KeptBut.of_below hb).trans h2⟩
  clear hl hS h
  by_cases h0 : 0 ≤ n
  · by_cases h1 : n ≤ 1073741824
    · have HX := Lib.hid ((HW true).out (by simp [h0, h1]))
      clear HW
      go_enter Tryd.func20, Tryd.ntmps20
      go_wp2_with fail
      refine HP.out.mono ?_
      rintro e w' ⟨rfl, hb⟩
      go_wp2_with fail
      refine (HX.out _ hb).mono ?_
      rintro e w'' ⟨rfl, hq1, hq2⟩
      have HQ := Lib.hid (And.intro hq1 hq2)
      clear hq1 hq2
      go_wp2_with fail
      go_end0
      exact ⟨rfl, HQ.out⟩
    · have HX := Lib.hid ((HW false).out (by simp [h1]))
      clear HW
      go_enter Tryd.func20, Tryd.ntmps20
      go_wp2_with fail
      refine HP.out.mono ?_
      rintro e w' ⟨rfl, hb⟩
      go_wp2_with fail
      refine (HX.out _ hb).mono ?_
      rintro e w'' ⟨rfl, hq1, hq2⟩
      have HQ := Lib.hid (And.intro hq1 hq2)
      clear hq1 hq2
      go_wp2_with fail
      go_end0
      exact ⟨rfl, HQ.out⟩
  · have HX := Lib.hid ((HW false).out (by simp [h0]))
    clear HW
    go_enter Tryd.func20, Tryd.ntmps20
    go_wp2_with fail
    refine HP.out.mono ?_
    rintro e w' ⟨rfl, hb⟩
    go_wp2_with fail
    refine (HX.out _ hb).mono ?_
    rintro e w'' ⟨rfl, hq1, hq2⟩
    have HQ := Lib.hid (And.intro hq1 hq2)
    clear hq1 hq2
    go_wp2_with fail
    go_end0
    exact ⟨rfl, HQ.out⟩
set_option maxRecDepth 100000 in
theorem wtxt_any' (b : Nat) (r : Wr) (t : List UInt8) (hS : r.l.length + t.length ≤ 1000000000 ) (w : World) (h : WrAt w b r) :
    Calls Tryd.prog 23 #[.pointer (some ⟨b, 0, none⟩), .string (bs t)] w fun v w' => v = .returned (.tuple #[]) ∧ WrAt w' b (r.txt t) ∧ KeptBut b w w' := by
  have hl := putM_len (t.length : Int)
  obtain ⟨T, hT⟩ : ∃ T, bs t = T := ⟨_, rfl⟩
  obtain ⟨P, hP⟩ : ∃ P, bs (putM t.length) = P := ⟨_, rfl⟩
  obtain ⟨U, hU⟩ : ∃ U, P ++ T = U := ⟨_, rfl⟩
  have hz : T.size = t.length := by rw [← hT, bs_size]
  have hzp : P.size ≤ 5 := by rw [← hP, bs_size]; exact hl
  have hzu : ¬ 9223372036854775807 < P.size + T.size := by omega
  have HP := Lib.hid (rput_any (t.length : Int) w)
  rw [hP, ← hz] at HP
  have HW : ∀ B : Bool, Hid (B = decide (t.length ≤ 65536) → ∀ w', Below w.heap.size w w' → Calls Tryd.prog 45 #[.pointer (some ⟨b, 0, none⟩), .bool B, .string U] w' fun v w'' => v = .returned (.tuple #[]) ∧ WrAt w'' b (r.txt t) ∧ KeptBut b w w'') := by
    intro B
    refine Lib.hid fun hB w' hb => ?_
    subst hB
    rw [← hU, ← hP, ← hT, bs_append]
    refine (wput_any' b r _ (putM t.length ++ t) (by rw [List.length_append]; omega) w' (WAt.below h hb)).mono ?_
    rintro v w'' ⟨rfl, h1, h2⟩
    exact ⟨rfl, h1, (KeptBut.of_below hb).trans h2⟩
  rw [hT]
  by_cases h0 : t.length ≤ 65536
  · have HX := Lib.hid ((HW true).out (by simp [h0]))
    have h0' : (T.size : Int) ≤ 65536 := by omega
    have HU := Lib.hid hU
    clear HW hS h hl hT hP hU hz hzp h0
    go_enter Tryd.func23, Tryd.ntmps23
    go_wp2_with fail
    refine HP.out.mono ?_
    rintro e w' ⟨rfl, hb⟩
    go_wp2_with fail
    rw [HU.out]
    refine (HX.out _ hb).mono ?_
    rintro e w'' ⟨rfl, hq1, hq2⟩
    have HQ := Lib.hid (And.intro hq1 hq2)
    clear hq1 hq2
    go_wp2_with fail
    go_end0
    exact ⟨rfl, HQ.out⟩
  · have HX := Lib.hid ((HW false).out (by simp [h0]))
    have h0' : ¬ (T.size : Int) ≤ 65536 := by omega
    have HU := Lib.hid hU
    clear HW hS h hl hT hP hU hz hzp h0
    go_enter Tryd.func23, Tryd.ntmps23
    go_wp2_with fail
    refine HP.out.mono ?_
    rintro e w' ⟨rfl, hb⟩
    go_wp2_with fail
    rw [HU.out]
    refine (HX.out _ hb).mono ?_
    rintro e w'' ⟨rfl, hq1, hq2⟩
    have HQ := Lib.hid (And.intro hq1 hq2)
    clear hq1 hq2
    go_wp2_with fail
    go_end0
    exact ⟨rfl, HQ.out⟩
end Go.Proofs.YtjmfdacnaodfdaaDoor

namespace Go.Proofs.YtjmfdacnaodfdaaDoor
set_option linter.unusedVariables false
set_option linter.unusedSimpArgs false
open Go.RowKit

structure OpR where
  k : Int
  p : Int
  t : Int
  n : Int
  a : Int
  m : Int
  u : ByteArray
  v : ByteArray

def OpR.cells (x : OpR) : Array Value := #[.int .i64 x.k, .int .i64 x.p, .int .i64 x.t, .int .i64 x.n, .int .i64 x.a, .int .i64 x.m, .string x.u, .string x.v]

/-- What the first i of some bits come to. -/
def bitsTo (b : Nat → Bool) : Nat → Nat
  | 0 => 0
  | i + 1 => if b i then bitsTo b i ||| 2 ^ i else bitsTo b i

def bools6 (b0 b1 b2 b3 b4 b5 : Bool) (i : Nat) : Bool := [b0, b1, b2, b3, b4, b5].getD i false

theorem or_step : ∀ (b0 b1 b2 b3 b4 b5 : Bool), ∀ i : Fin 6, bits .or .i64 (bitsTo (bools6 b0 b1 b2 b3 b4 b5) i : Int) (2 ^ i.val : Int) = ((bitsTo (bools6 b0 b1 b2 b3 b4 b5) i ||| 2 ^ i.val : Nat) : Int) := by decide +kernel

/-- Has an operation of kind k a field that is not its own? -/
def spareB (b : Nat → Bool) (k : Nat) : Bool := (List.range 6).any fun i => b i && !((fieldsTab.getD k 0).toNat.testBit i)

theorem andNot_step : ∀ (b0 b1 b2 b3 b4 b5 : Bool), ∀ k : Fin 13, (bits .andNot .i64 (bitsTo (bools6 b0 b1 b2 b3 b4 b5) 6 : Int) (fieldsTab.getD k 0) != 0) = spareB (bools6 b0 b1 b2 b3 b4 b5) k := by decide +kernel

theorem index6_0 (b0 b1 b2 b3 b4 b5 : Bool) (w : World) : (Instr.index 102 (.agg #[.bool b0, .bool b1, .bool b2, .bool b3, .bool b4, .bool b5]) (.int .i64 0)).run Tryd.prog w = .ok (.bool b0) w := by
  kernel_rfl
theorem index6_1 (b0 b1 b2 b3 b4 b5 : Bool) (w : World) : (Instr.index 102 (.agg #[.bool b0, .bool b1, .bool b2, .bool b3, .bool b4, .bool b5]) (.int .i64 1)).run Tryd.prog w = .ok (.bool b1) w := by
  kernel_rfl
theorem index6_2 (b0 b1 b2 b3 b4 b5 : Bool) (w : World) : (Instr.index 102 (.agg #[.bool b0, .bool b1, .bool b2, .bool b3, .bool b4, .bool b5]) (.int .i64 2)).run Tryd.prog w = .ok (.bool b2) w := by
  kernel_rfl
theorem index6_3 (b0 b1 b2 b3 b4 b5 : Bool) (w : World) : (Instr.index 102 (.agg #[.bool b0, .bool b1, .bool b2, .bool b3, .bool b4, .bool b5]) (.int .i64 3)).run Tryd.prog w = .ok (.bool b3) w := by
  kernel_rfl
theorem index6_4 (b0 b1 b2 b3 b4 b5 : Bool) (w : World) : (Instr.index 102 (.agg #[.bool b0, .bool b1, .bool b2, .bool b3, .bool b4, .bool b5]) (.int .i64 4)).run Tryd.prog w = .ok (.bool b4) w := by
  kernel_rfl
theorem index6_5 (b0 b1 b2 b3 b4 b5 : Bool) (w : World) : (Instr.index 102 (.agg #[.bool b0, .bool b1, .bool b2, .bool b3, .bool b4, .bool b5]) (.int .i64 5)).run Tryd.prog w = .ok (.bool b5) w := by
  kernel_rfl

def spareM (x : OpR) : Bool := spareB (bools6 (x.t != 0) (x.n != 0) (x.a != 0) (x.m != 0) (!x.u.toList.isEmpty) (!x.v.toList.isEmpty)) x.k.toNat

set_option maxHeartbeats 2000000 in
set_option maxRecDepth 100000 in
theorem spare_any (x : OpR) (w : World) (hd : Flds w) (h0 : 0 ≤ x.k) (h13 : x.k < 13) :
    Calls Tryd.prog 52 #[.agg x.cells] w fun e w' => e = .returned (.bool (spareM x)) ∧ Below w.heap.size w w' := by
  obtain ⟨k, p, t, n, a, m, u, v⟩ := x
  simp only at h0 h13
  obtain ⟨K, rfl⟩ := Int.eq_ofNat_of_zero_le h0
  obtain ⟨w1, hw1⟩ : ∃ W, w.alloc (.cells #[.int .i64 K, .int .i64 p, .int .i64 t, .int .i64 n, .int .i64 a, .int .i64 m, .string u, .string v] 30) = W := ⟨_, rfl⟩
  have hbl : w1.heap[w.heap.size]? = some (.cells #[.int .i64 K, .int .i64 p, .int .i64 t, .int .i64 n, .int .i64 a, .int .i64 m, .string u, .string v] 30 (0, 0)) := by rw [← hw1]; exact World.alloc_heap_new _ _
  have hb1 : Below w.heap.size w w1 := by rw [← hw1]; exact (Below.refl _ _).alloc (Nat.le_refl _) _
  have c0 : w1.cell? ⟨w.heap.size, 0, none⟩ = some (.int .i64 K) := by simp [World.cell?, hbl]
  have c2 : w1.cell? ⟨w.heap.size, 2, none⟩ = some (.int .i64 t) := by simp [World.cell?, hbl]
  have c3 : w1.cell? ⟨w.heap.size, 3, none⟩ = some (.int .i64 n) := by simp [World.cell?, hbl]
  have c4 : w1.cell? ⟨w.heap.size, 4, none⟩ = some (.int .i64 a) := by simp [World.cell?, hbl]
  have c5 : w1.cell? ⟨w.heap.size, 5, none⟩ = some (.int .i64 m) := by simp [World.cell?, hbl]
  have c6 : w1.cell? ⟨w.heap.size, 6, none⟩ = some (.string u) := by simp [World.cell?, hbl]
  have c7 : w1.cell? ⟨w.heap.size, 7, none⟩ = some (.string v) := by simp [World.cell?, hbl]
  have hK : K < 13 := by omega
  have hf := (hd.below hb1).cell K hK
  obtain ⟨F, hF⟩ : ∃ F, fieldsTab.getD K 0 = F := ⟨_, rfl⟩
  obtain ⟨b0, e0⟩ : ∃ b, (t != 0) = b := ⟨_, rfl⟩
  obtain ⟨b1, e1⟩ : ∃ b, (n != 0) = b := ⟨_, rfl⟩
  obtain ⟨b2, e2⟩ : ∃ b, (a != 0) = b := ⟨_, rfl⟩
  obtain ⟨b3, e3⟩ : ∃ b, (m != 0) = b := ⟨_, rfl⟩
  obtain ⟨b4, e4⟩ : ∃ b, (!u.toList.isEmpty) = b := ⟨_, rfl⟩
  obtain ⟨b5, e5⟩ : ∃ b, (!v.toList.isEmpty) = b := ⟨_, rfl⟩
  have han : (bits .andNot .i64 (bitsTo (bools6 b0 b1 b2 b3 b4 b5) 6 : Int) (fieldsTab.getD K 0) != 0) = spareB (bools6 b0 b1 b2 b3 b4 b5) K := andNot_step b0 b1 b2 b3 b4 b5 ⟨K, hK⟩
  have HAN := Lib.hid han
  have HS : Hid (spareM ⟨K, p, t, n, a, m, u, v⟩ = spareB (bools6 b0 b1 b2 b3 b4 b5) K) := by simp [Hid, spareM, e0, e1, e2, e3, e4, e5]
  rw [hF] at hf
  have HF := Lib.hid hF
  have HB1 := Lib.hid hb1
  have hK' : (K : Int) < 13 := by omega
  clear hbl hb1 hd hF han hK h0 h13
  show Calls Tryd.prog 52 #[.agg #[.int .i64 K, .int .i64 p, .int .i64 t, .int .i64 n, .int .i64 a, .int .i64 m, .string u, .string v]] w _
  go_enter Tryd.func52, Tryd.ntmps52
  go_wp2_with fail
  go_loopg [3, 4, 5, 25] 6 (fun n t3 t4 t5 t25 wr => w1 = wr ∧ (n = 6 ∧ t25 = .int .i64 0 ∧ t3 = .int .i64 (bitsTo (bools6 b0 b1 b2 b3 b4 b5) 0 : Int) ∨ n = 5 ∧ t25 = .int .i64 1 ∧ t3 = .int .i64 (bitsTo (bools6 b0 b1 b2 b3 b4 b5) 1 : Int) ∨ n = 4 ∧ t25 = .int .i64 2 ∧ t3 = .int .i64 (bitsTo (bools6 b0 b1 b2 b3 b4 b5) 2 : Int) ∨ n = 3 ∧ t25 = .int .i64 3 ∧ t3 = .int .i64 (bitsTo (bools6 b0 b1 b2 b3 b4 b5) 3 : Int) ∨ n = 2 ∧ t25 = .int .i64 4 ∧ t3 = .int .i64 (bitsTo (bools6 b0 b1 b2 b3 b4 b5) 4 : Int) ∨ n = 1 ∧ t25 = .int .i64 5 ∧ t3 = .int .i64 (bitsTo (bools6 b0 b1 b2 b3 b4 b5) 5 : Int) ∨ n = 0 ∧ t25 = .int .i64 6 ∧ t3 = .int .i64 (bitsTo (bools6 b0 b1 b2 b3 b4 b5) 6 : Int)))
  case atStart => exact ⟨rfl, .inl ⟨rfl, rfl, rfl⟩⟩
  case round =>
    have hOR := or_step b0 b1 b2 b3 b4 b5
    have HOR := Lib.hid hOR
    clear hOR
    obtain ⟨rfl, ⟨rfl, rfl, rfl⟩ | ⟨rfl, rfl, rfl⟩ | ⟨rfl, rfl, rfl⟩ | ⟨rfl, rfl, rfl⟩ | ⟨rfl, rfl, rfl⟩ | ⟨rfl, rfl, rfl⟩ | ⟨rfl, rfl, rfl⟩⟩ := hrel
    · obtain ⟨N, hN⟩ : ∃ N : Nat, bitsTo (bools6 b0 b1 b2 b3 b4 b5) 0 = N := ⟨_, rfl⟩
      rw [hN]
      have HN := Lib.hid hN
      clear hN
      have ho := HOR.out ⟨0, by decide⟩
      by_cases hb0 : b0 = true
      · have q : ∀ w, (Instr.index 102 (.agg #[.bool b0, .bool b1, .bool b2, .bool b3, .bool b4, .bool b5]) (.int .i64 0)).run Tryd.prog w = .ok (.bool true) w := fun w => (index6_0 b0 b1 b2 b3 b4 b5 w).trans (by rw [hb0])
        have h1 : bits .or .i64 (N : Int) 1 = (bitsTo (bools6 b0 b1 b2 b3 b4 b5) 1 : Int) := by
          rw [← HN.out]
          refine ho.trans ?_
          show _ = ((if b0 = true then _ else _ : Nat) : Int)
          rw [if_pos hb0]
        have H1 := Lib.hid h1
        clear h1 ho hb0
        go_wp2_with fail
        go_roundg 5
        case rel =>
          refine ⟨rfl, .inr (.inl ⟨rfl, rfl, ?_⟩)⟩
          rw [H1.out]
        case measure => omega
      · have q : ∀ w, (Instr.index 102 (.agg #[.bool b0, .bool b1, .bool b2, .bool b3, .bool b4, .bool b5]) (.int .i64 0)).run Tryd.prog w = .ok (.bool false) w := fun w => (index6_0 b0 b1 b2 b3 b4 b5 w).trans (by rw [show b0 = false by simpa using hb0])
        have h1 : bitsTo (bools6 b0 b1 b2 b3 b4 b5) 1 = N := by
          rw [← HN.out]
          show (if b0 = true then _ else _ : Nat) = _
          rw [if_neg hb0]
        have H1 := Lib.hid h1
        clear h1 ho hb0
        go_wp2_with fail
        go_roundg 5
        case rel =>
          refine ⟨rfl, .inr (.inl ⟨rfl, rfl, ?_⟩)⟩
          rw [H1.out]
        case measure => omega
    · obtain ⟨N, hN⟩ : ∃ N : Nat, bitsTo (bools6 b0 b1 b2 b3 b4 b5) 1 = N := ⟨_, rfl⟩
      rw [hN]
      have HN := Lib.hid hN
      clear hN
      have ho := HOR.out ⟨1, by decide⟩
      by_cases hb1 : b1 = true
      · have q : ∀ w, (Instr.index 102 (.agg #[.bool b0, .bool b1, .bool b2, .bool b3, .bool b4, .bool b5]) (.int .i64 1)).run Tryd.prog w = .ok (.bool true) w := fun w => (index6_1 b0 b1 b2 b3 b4 b5 w).trans (by rw [hb1])
        have h1 : bits .or .i64 (N : Int) 2 = (bitsTo (bools6 b0 b1 b2 b3 b4 b5) 2 : Int) := by
          rw [← HN.out]
          refine ho.trans ?_
          show _ = ((if b1 = true then _ else _ : Nat) : Int)
          rw [if_pos hb1]
        have H1 := Lib.hid h1
        clear h1 ho hb1
        go_wp2_with fail
        go_roundg 4
        case rel =>
          refine ⟨rfl, .inr (.inr (.inl ⟨rfl, rfl, ?_⟩))⟩
          rw [H1.out]
        case measure => omega
      · have q : ∀ w, (Instr.index 102 (.agg #[.bool b0, .bool b1, .bool b2, .bool b3, .bool b4, .bool b5]) (.int .i64 1)).run Tryd.prog w = .ok (.bool false) w := fun w => (index6_1 b0 b1 b2 b3 b4 b5 w).trans (by rw [show b1 = false by simpa using hb1])
        have h1 : bitsTo (bools6 b0 b1 b2 b3 b4 b5) 2 = N := by
          rw [← HN.out]
          show (if b1 = true then _ else _ : Nat) = _
          rw [if_neg hb1]
        have H1 := Lib.hid h1
        clear h1 ho hb1
        go_wp2_with fail
        go_roundg 4
        case rel =>
          refine ⟨rfl, .inr (.inr (.inl ⟨rfl, rfl, ?_⟩))⟩
          rw [H1.out]
        case measure => omega
    · obtain ⟨N, hN⟩ : ∃ N : Nat, bitsTo (bools6 b0 b1 b2 b3 b4 b5) 2 = N := ⟨_, rfl⟩
      rw [hN]
      have HN := Lib.hid hN
      clear hN
      have ho := HOR.out ⟨2, by decide⟩
      by_cases hb2 : b2 = true
      · have q : ∀ w, (Instr.index 102 (.agg #[.bool b0, .bool b1, .bool b2, .bool b3, .bool b4, .bool b5]) (.int .i64 2)).run Tryd.prog w = .ok (.bool true) w := fun w => (index6_2 b0 b1 b2 b3 b4 b5 w).trans (by rw [hb2])
        have h1 : bits .or .i64 (N : Int) 4 = (bitsTo (bools6 b0 b1 b2 b3 b4 b5) 3 : Int) := by
          rw [← HN.out]
          refine ho.trans ?_
          show _ = ((if b2 = true then _ else _ : Nat) : Int)
          rw [if_pos hb2]
        have H1 := Lib.hid h1
        clear h1 ho hb2
        go_wp2_with fail
        go_roundg 3
        case rel =>
          refine ⟨rfl, .inr (.inr (.inr (.inl ⟨rfl, rfl, ?_⟩)))⟩
          rw [H1.out]
        case measure => omega
      · have q : ∀ w, (Instr.index 102 (.agg #[.bool b0, .bool b1, .bool b2, .bool b3, .bool b4, .bool b5]) (.int .i64 2)).run Tryd.prog w = .ok (.bool false) w := fun w => (index6_2 b0 b1 b2 b3 b4 b5 w).trans (by rw [show b2 = false by simpa using hb2])
        have h1 : bitsTo (bools6 b0 b1 b2 b3 b4 b5) 3 = N := by
          rw [← HN.out]
          show (if b2 = true then _ else _ : Nat) = _
          rw [if_neg hb2]
        have H1 := Lib.hid h1
        clear h1 ho hb2
        go_wp2_with fail
        go_roundg 3
        case rel =>
          refine ⟨rfl, .inr (.inr (.inr (.inl ⟨rfl, rfl, ?_⟩)))⟩
          rw [H1.out]
        case measure => omega
    · obtain ⟨N, hN⟩ : ∃ N : Nat, bitsTo (bools6 b0 b1 b2 b3 b4 b5) 3 = N := ⟨_, rfl⟩
      rw [hN]
      have HN := Lib.hid hN
      clear hN
      have ho := HOR.out ⟨3, by decide⟩
      by_cases hb3 : b3 = true
      · have q : ∀ w, (Instr.index 102 (.agg #[.bool b0, .bool b1, .bool b2, .bool b3, .bool b4, .bool b5]) (.int .i64 3)).run Tryd.prog w = .ok (.bool true) w := fun w => (index6_3 b0 b1 b2 b3 b4 b5 w).trans (by rw [hb3])
        have h1 : bits .or .i64 (N : Int) 8 = (bitsTo (bools6 b0 b1 b2 b3 b4 b5) 4 : Int) := by
          rw [← HN.out]
          refine ho.trans ?_
          show _ = ((if b3 = true then _ else _ : Nat) : Int)
          rw [if_pos hb3]
        have H1 := Lib.hid h1
        clear h1 ho hb3
        go_wp2_with fail
        go_roundg 2
        case rel =>
          refine ⟨rfl, .inr (.inr (.inr (.inr (.inl ⟨rfl, rfl, ?_⟩))))⟩
          rw [H1.out]
        case measure => omega
      · have q : ∀ w, (Instr.index 102 (.agg #[.bool b0, .bool b1, .bool b2, .bool b3, .bool b4, .bool b5]) (.int .i64 3)).run Tryd.prog w = .ok (.bool false) w := fun w => (index6_3 b0 b1 b2 b3 b4 b5 w).trans (by rw [show b3 = false by simpa using hb3])
        have h1 : bitsTo (bools6 b0 b1 b2 b3 b4 b5) 4 = N := by
          rw [← HN.out]
          show (if b3 = true then _ else _ : Nat) = _
          rw [if_neg hb3]
        have H1 := Lib.hid h1
        clear h1 ho hb3
        go_wp2_with fail
        go_roundg 2
        case rel =>
          refine ⟨rfl, .inr (.inr (.inr (.inr (.inl ⟨rfl, rfl, ?_⟩))))⟩
          rw [H1.out]
        case measure => omega
    · obtain ⟨N, hN⟩ : ∃ N : Nat, bitsTo (bools6 b0 b1 b2 b3 b4 b5) 4 = N := ⟨_, rfl⟩
      rw [hN]
      have HN := Lib.hid hN
      clear hN
      have ho := HOR.out ⟨4, by decide⟩
      by_cases hb4 : b4 = true
      · have q : ∀ w, (Instr.index 102 (.agg #[.bool b0, .bool b1, .bool b2, .bool b3, .bool b4, .bool b5]) (.int .i64 4)).run Tryd.prog w = .ok (.bool true) w := fun w => (index6_4 b0 b1 b2 b3 b4 b5 w).trans (by rw [hb4])
        have h1 : bits .or .i64 (N : Int) 16 = (bitsTo (bools6 b0 b1 b2 b3 b4 b5) 5 : Int) := by
          rw [← HN.out]
          refine ho.trans ?_
          show _ = ((if b4 = true then _ else _ : Nat) : Int)
          rw [if_pos hb4]
        have H1 := Lib.hid h1
        clear h1 ho hb4
        go_wp2_with fail
        go_roundg 1
        case rel =>
          refine ⟨rfl, .inr (.inr (.inr (.inr (.inr (.inl ⟨rfl, rfl, ?_⟩)))))⟩
          rw [H1.out]
        case measure => omega
      · have q : ∀ w, (Instr.index 102 (.agg #[.bool b0, .bool b1, .bool b2, .bool b3, .bool b4, .bool b5]) (.int .i64 4)).run Tryd.prog w = .ok (.bool false) w := fun w => (index6_4 b0 b1 b2 b3 b4 b5 w).trans (by rw [show b4 = false by simpa using hb4])
        have h1 : bitsTo (bools6 b0 b1 b2 b3 b4 b5) 5 = N := by
          rw [← HN.out]
          show (if b4 = true then _ else _ : Nat) = _
          rw [if_neg hb4]
        have H1 := Lib.hid h1
        clear h1 ho hb4
        go_wp2_with fail
        go_roundg 1
        case rel =>
          refine ⟨rfl, .inr (.inr (.inr (.inr (.inr (.inl ⟨rfl, rfl, ?_⟩)))))⟩
          rw [H1.out]
        case measure => omega
    · obtain ⟨N, hN⟩ : ∃ N : Nat, bitsTo (bools6 b0 b1 b2 b3 b4 b5) 5 = N := ⟨_, rfl⟩
      rw [hN]
      have HN := Lib.hid hN
      clear hN
      have ho := HOR.out ⟨5, by decide⟩
      by_cases hb5 : b5 = true
      · have q : ∀ w, (Instr.index 102 (.agg #[.bool b0, .bool b1, .bool b2, .bool b3, .bool b4, .bool b5]) (.int .i64 5)).run Tryd.prog w = .ok (.bool true) w := fun w => (index6_5 b0 b1 b2 b3 b4 b5 w).trans (by rw [hb5])
        have h1 : bits .or .i64 (N : Int) 32 = (bitsTo (bools6 b0 b1 b2 b3 b4 b5) 6 : Int) := by
          rw [← HN.out]
          refine ho.trans ?_
          show _ = ((if b5 = true then _ else _ : Nat) : Int)
          rw [if_pos hb5]
        have H1 := Lib.hid h1
        clear h1 ho hb5
        go_wp2_with fail
        go_roundg 0
        case rel =>
          refine ⟨rfl, .inr (.inr (.inr (.inr (.inr (.inr (⟨rfl, rfl, ?_⟩))))))⟩
          rw [H1.out]
        case measure => omega
      · have q : ∀ w, (Instr.index 102 (.agg #[.bool b0, .bool b1, .bool b2, .bool b3, .bool b4, .bool b5]) (.int .i64 5)).run Tryd.prog w = .ok (.bool false) w := fun w => (index6_5 b0 b1 b2 b3 b4 b5 w).trans (by rw [show b5 = false by simpa using hb5])
        have h1 : bitsTo (bools6 b0 b1 b2 b3 b4 b5) 6 = N := by
          rw [← HN.out]
          show (if b5 = true then _ else _ : Nat) = _
          rw [if_neg hb5]
        have H1 := Lib.hid h1
        clear h1 ho hb5
        go_wp2_with fail
        go_roundg 0
        case rel =>
          refine ⟨rfl, .inr (.inr (.inr (.inr (.inr (.inr (⟨rfl, rfl, ?_⟩))))))⟩
          rw [H1.out]
        case measure => omega
    · go_wp2_with fail
      go_ret
      refine ⟨?_, HB1.out⟩
      rw [HS.out, ← HAN.out, HF.out]
      rfl

def kindB (x : Int) : Bool := decide (0 ≤ x ∧ x < 13)
theorem kind_any (x : Int) (w : World) : Calls Tryd.prog 48 #[.int .i64 x] w fun e w' => e = .returned (.bool (kindB x)) ∧ w = w' := by
  by_cases h0 : 0 ≤ x
  · by_cases h1 : x < 13
    · have HT : Hid (kindB x = true) := by simp [Hid, kindB, h0, h1]
      go_enter Tryd.func48, Tryd.ntmps48
      go_wp2
      go_ret
      rw [HT.out]
      exact ⟨by simp [h0, h1], rfl⟩
    · have HT : Hid (kindB x = false) := by simp [Hid, kindB, h1]
      go_enter Tryd.func48, Tryd.ntmps48
      go_wp2
      go_ret
      rw [HT.out]
      exact ⟨by simp [h0, h1], rfl⟩
  · have HT : Hid (kindB x = false) := by simp [Hid, kindB, h0]
    go_enter Tryd.func48, Tryd.ntmps48
    go_wp2
    go_ret
    rw [HT.out]
    exact ⟨by simp [h0], rfl⟩

def peerB (x : Int) : Bool := decide (0 ≤ x ∧ x < 64)
theorem peer_any (x : Int) (w : World) : Calls Tryd.prog 49 #[.int .i64 x] w fun e w' => e = .returned (.bool (peerB x)) ∧ w = w' := by
  by_cases h0 : 0 ≤ x
  · by_cases h1 : x < 64
    · have HT : Hid (peerB x = true) := by simp [Hid, peerB, h0, h1]
      go_enter Tryd.func49, Tryd.ntmps49
      go_wp2
      go_ret
      rw [HT.out]
      exact ⟨by simp [h0, h1], rfl⟩
    · have HT : Hid (peerB x = false) := by simp [Hid, peerB, h1]
      go_enter Tryd.func49, Tryd.ntmps49
      go_wp2
      go_ret
      rw [HT.out]
      exact ⟨by simp [h0, h1], rfl⟩
  · have HT : Hid (peerB x = false) := by simp [Hid, peerB, h0]
    go_enter Tryd.func49, Tryd.ntmps49
    go_wp2
    go_ret
    rw [HT.out]
    exact ⟨by simp [h0], rfl⟩

def numB (x : Int) : Bool := decide (0 ≤ x ∧ x ≤ 1073741824)
theorem num_any (x : Int) (w : World) : Calls Tryd.prog 50 #[.int .i64 x] w fun e w' => e = .returned (.bool (numB x)) ∧ w = w' := by
  by_cases h0 : 0 ≤ x
  · by_cases h1 : x ≤ 1073741824
    · have HT : Hid (numB x = true) := by simp [Hid, numB, h0, h1]
      go_enter Tryd.func50, Tryd.ntmps50
      go_wp2
      go_ret
      rw [HT.out]
      exact ⟨by simp [h0, h1], rfl⟩
    · have HT : Hid (numB x = false) := by simp [Hid, numB, h1]
      go_enter Tryd.func50, Tryd.ntmps50
      go_wp2
      go_ret
      rw [HT.out]
      exact ⟨by simp [h0, h1], rfl⟩
  · have HT : Hid (numB x = false) := by simp [Hid, numB, h0]
    go_enter Tryd.func50, Tryd.ntmps50
    go_wp2
    go_ret
    rw [HT.out]
    exact ⟨by simp [h0], rfl⟩

def textB (s : ByteArray) : Bool := decide ((s.size : Int) ≤ 255)
theorem text_any (s : ByteArray) (w : World) : Calls Tryd.prog 51 #[.string s] w fun e w' => e = .returned (.bool (textB s)) ∧ w = w' := by
  go_enter Tryd.func51, Tryd.ntmps51
  go_wp2
  go_ret
  exact ⟨rfl, rfl⟩

def checkM (x : OpR) : Int :=
  if kindB x.k = false then 15 else if (peerB x.p && peerB x.t) = false then 11 else if (numB x.n && numB x.a && numB x.m) = false then 12
  else if (textB x.u && textB x.v) = false then 2 else if spareM x = true then 7 else 0

set_option maxHeartbeats 2000000 in
set_option maxRecDepth 100000 in
theorem check_any (x : OpR) (w : World) (hd : Flds w) :
    Calls Tryd.prog 25 #[.agg x.cells] w fun e w' => e = .returned (.int .i64 (checkM x)) ∧ Below w.heap.size w w' := by
  have HSP := Lib.hid (fun (w' : World) (hb : Below w.heap.size w w') (h0 : 0 ≤ x.k) (h13 : x.k < 13) => spare_any x w' (hd.below hb) h0 h13)
  have HM : Hid (checkM x = checkM x) := rfl
  have HX : Hid (∀ c, checkM x = c → checkM x = c) := fun _ h => h
  have hcm : checkM x = if kindB x.k = false then 15 else if (peerB x.p && peerB x.t) = false then 11 else if (numB x.n && numB x.a && numB x.m) = false then 12 else if (textB x.u && textB x.v) = false then 2 else if spareM x = true then 7 else 0 := rfl
  have HCM := Lib.hid hcm
  clear hcm HM HX hd
  obtain ⟨k, p, t, n, a, m, u, v⟩ := x
  obtain ⟨w1, hw1⟩ : ∃ W, w.alloc (.cells #[.int .i64 k, .int .i64 p, .int .i64 t, .int .i64 n, .int .i64 a, .int .i64 m, .string u, .string v] 30) = W := ⟨_, rfl⟩
  have hbl : w1.heap[w.heap.size]? = some (.cells #[.int .i64 k, .int .i64 p, .int .i64 t, .int .i64 n, .int .i64 a, .int .i64 m, .string u, .string v] 30 (0, 0)) := by rw [← hw1]; exact World.alloc_heap_new _ _
  have hb1 : Below w.heap.size w w1 := by rw [← hw1]; exact (Below.refl _ _).alloc (Nat.le_refl _) _
  have c0 : w1.cell? ⟨w.heap.size, 0, none⟩ = some (.int .i64 k) := by simp [World.cell?, hbl]
  have c1 : w1.cell? ⟨w.heap.size, 1, none⟩ = some (.int .i64 p) := by simp [World.cell?, hbl]
  have c2 : w1.cell? ⟨w.heap.size, 2, none⟩ = some (.int .i64 t) := by simp [World.cell?, hbl]
  have c3 : w1.cell? ⟨w.heap.size, 3, none⟩ = some (.int .i64 n) := by simp [World.cell?, hbl]
  have c4 : w1.cell? ⟨w.heap.size, 4, none⟩ = some (.int .i64 a) := by simp [World.cell?, hbl]
  have c5 : w1.cell? ⟨w.heap.size, 5, none⟩ = some (.int .i64 m) := by simp [World.cell?, hbl]
  have c6 : w1.cell? ⟨w.heap.size, 6, none⟩ = some (.string u) := by simp [World.cell?, hbl]
  have c7 : w1.cell? ⟨w.heap.size, 7, none⟩ = some (.string v) := by simp [World.cell?, hbl]
  have HB1 := Lib.hid hb1
  clear hbl hb1
  show Calls Tryd.prog 25 #[.agg #[.int .i64 k, .int .i64 p, .int .i64 t, .int .i64 n, .int .i64 a, .int .i64 m, .string u, .string v]] w _
  simp only at HCM
  obtain ⟨bk, ebk⟩ : ∃ b, kindB k = b := ⟨_, rfl⟩
  have Hbk := Lib.hid (kind_any k w1)
  rw [ebk] at HCM Hbk
  obtain ⟨bp, ebp⟩ : ∃ b, peerB p = b := ⟨_, rfl⟩
  have Hbp := Lib.hid (peer_any p w1)
  rw [ebp] at HCM Hbp
  obtain ⟨bt, ebt⟩ : ∃ b, peerB t = b := ⟨_, rfl⟩
  have Hbt := Lib.hid (peer_any t w1)
  rw [ebt] at HCM Hbt
  obtain ⟨bn, ebn⟩ : ∃ b, numB n = b := ⟨_, rfl⟩
  have Hbn := Lib.hid (num_any n w1)
  rw [ebn] at HCM Hbn
  obtain ⟨ba, eba⟩ : ∃ b, numB a = b := ⟨_, rfl⟩
  have Hba := Lib.hid (num_any a w1)
  rw [eba] at HCM Hba
  obtain ⟨bm, ebm⟩ : ∃ b, numB m = b := ⟨_, rfl⟩
  have Hbm := Lib.hid (num_any m w1)
  rw [ebm] at HCM Hbm
  obtain ⟨bu, ebu⟩ : ∃ b, textB u = b := ⟨_, rfl⟩
  have Hbu := Lib.hid (text_any u w1)
  rw [ebu] at HCM Hbu
  obtain ⟨bv, ebv⟩ : ∃ b, textB v = b := ⟨_, rfl⟩
  have Hbv := Lib.hid (text_any v w1)
  rw [ebv] at HCM Hbv
  have EK := Lib.hid ebk
  clear ebk ebp ebt ebn eba ebm ebu ebv
  go_enter Tryd.func25, Tryd.ntmps25
  go_wp2_with fail
  refine Hbk.out.mono ?_
  rintro e w' ⟨rfl, rfl⟩
  cases bk with
  | false =>
    go_wp2_with fail
    go_ret
    exact ⟨by rw [HCM.out]; rfl, HB1.out⟩
  | true =>
    go_wp2_with fail
    refine Hbp.out.mono ?_
    rintro e w' ⟨rfl, rfl⟩
    cases bp with
    | false =>
      go_wp2_with fail
      go_ret
      exact ⟨by rw [HCM.out]; rfl, HB1.out⟩
    | true =>
      go_wp2_with fail
      refine Hbt.out.mono ?_
      rintro e w' ⟨rfl, rfl⟩
      cases bt with
      | false =>
        go_wp2_with fail
        go_ret
        exact ⟨by rw [HCM.out]; rfl, HB1.out⟩
      | true =>
        go_wp2_with fail
        refine Hbn.out.mono ?_
        rintro e w' ⟨rfl, rfl⟩
        cases bn with
        | false =>
          go_wp2_with fail
          go_ret
          exact ⟨by rw [HCM.out]; rfl, HB1.out⟩
        | true =>
          go_wp2_with fail
          refine Hba.out.mono ?_
          rintro e w' ⟨rfl, rfl⟩
          cases ba with
          | false =>
            go_wp2_with fail
            go_ret
            exact ⟨by rw [HCM.out]; rfl, HB1.out⟩
          | true =>
            go_wp2_with fail
            refine Hbm.out.mono ?_
            rintro e w' ⟨rfl, rfl⟩
            cases bm with
            | false =>
              go_wp2_with fail
              go_ret
              exact ⟨by rw [HCM.out]; rfl, HB1.out⟩
            | true =>
              go_wp2_with fail
              refine Hbu.out.mono ?_
              rintro e w' ⟨rfl, rfl⟩
              cases bu with
              | false =>
                go_wp2_with fail
                go_ret
                exact ⟨by rw [HCM.out]; rfl, HB1.out⟩
              | true =>
                go_wp2_with fail
                refine Hbv.out.mono ?_
                rintro e w' ⟨rfl, rfl⟩
                cases bv with
                | false =>
                  go_wp2_with fail
                  go_ret
                  exact ⟨by rw [HCM.out]; rfl, HB1.out⟩
                | true =>
                  have hk : 0 ≤ k ∧ k < 13 := by have := EK.out; simpa [kindB] using this
                  have HSQ := Lib.hid (HSP.out w1 HB1.out hk.1 hk.2)
                  obtain ⟨bs, ebs⟩ : ∃ b, spareM ⟨k, p, t, n, a, m, u, v⟩ = b := ⟨_, rfl⟩
                  rw [ebs] at HCM HSQ
                  clear hk ebs
                  go_wp2_with fail
                  refine HSQ.out.mono ?_
                  rintro e w2 ⟨rfl, hb2⟩
                  have HB2 := Lib.hid hb2
                  clear hb2
                  cases bs with
                  | true =>
                    go_wp2_with fail
                    go_ret
                    exact ⟨by rw [HCM.out]; rfl, HB1.out.trans (HB2.out.mono HB1.out.size)⟩
                  | false =>
                    go_wp2_with fail
                    go_ret
                    exact ⟨by rw [HCM.out]; rfl, HB1.out.trans (HB2.out.mono HB1.out.size)⟩
end Go.Proofs.YtjmfdacnaodfdaaDoor
