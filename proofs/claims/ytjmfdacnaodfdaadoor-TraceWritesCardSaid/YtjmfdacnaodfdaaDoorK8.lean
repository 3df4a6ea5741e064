/- package hearsayref40: Read: rows that are owned, side by side. package hearsayref40: Read. package hearsayref35: are two lists of events the same; package hearsaylaw40: which lists are too great. package hearsaylaw40: awake. An argument that is a list of events, read. -/
import Derived.Laws.OwnMore
import Derived.Test.YtjmfdacnaodfdaaDoorK7
import Derived.StillTailTactics
import Derived.Deep.QuietTactic
import Derived.BigQuiet
import Derived.Test.YtjmfdacnaodfdaaDoorRows
import Derived.Lib.SmallJoins
import Derived.Deep.Slices
import Derived.Deep.Fields
import Derived.ChangeSame
namespace Go.Proofs.YtjmfdacnaodfdaaDoor
set_option linter.unusedVariables false
set_option linter.unusedSimpArgs false
open Go.RowKit

theorem own_ne {w : World} {base : Nat} {e T : TypeId} {size n : Nat} {v : Value} {xs : List Value} {k : Nat} {cs : Array Value} {fr : Nat × Nat} (h : w.ownsRow base e size v n xs) (hk : w.heap[k]? = some (.cells cs T fr)) (hT : T ≠ e) (q : Nat) (hq : v.ownBlock = some q) : q ≠ k := by
  intro he
  subst he
  rcases h.2 with ⟨rfl, _⟩ | ⟨g, cap, cur, rfl, _, hg, _⟩
  · simp [Value.ownBlock] at hq
  · simp only [Value.ownBlock, Option.some.injEq] at hq
    subst hq
    rw [hg] at hk
    simp only [Option.some.injEq, Obj.cells.injEq] at hk
    exact hT hk.2.1.symm
theorem own_heap {w : World} {base : Nat} {e : TypeId} {size n : Nat} {v : Value} {xs : List Value} (h : w.ownsRow base e size v n xs) (q : Nat) (hq : v.ownBlock = some q) : ∃ cs fr, w.heap[q]? = some (.cells cs e fr) := by
  rcases h.2 with ⟨rfl, _⟩ | ⟨g, cap, cur, rfl, _, hg, _⟩
  · simp [Value.ownBlock] at hq
  · simp only [Value.ownBlock, Option.some.injEq] at hq
    subst hq
    exact ⟨_, _, hg⟩
theorem own_apart {w : World} {base base' : Nat} {e e' : TypeId} {size n size' n' : Nat} {v v' : Value} {xs xs' : List Value} (h : w.ownsRow base e size v n xs) (h' : w.ownsRow base' e' size' v' n' xs') (hT : e' ≠ e) (q : Nat) (hq : v.ownBlock = some q) : some q ≠ v'.ownBlock := by
  intro he
  obtain ⟨cs, fr, hh⟩ := own_heap h' q he.symm
  exact own_ne h hh hT q hq rfl

def RawR.ev (x : RawR) : EvR := ⟨x.at_, zeroR, x.err, x.dp, x.dc⟩
/-- Where the document's reading of events stands. -/
structure R40 (b L : Nat) (w1 : World) (r : Rd) (A : Option Addr) (m c : Nat) (out : List EvR) (At : Option Addr) (mt ct : Nat) (tx : List (List UInt8)) (wr : World) : Prop where
  rd : RdAt 73 wr b r
  kept : KeptBut b w1 wr
  len : r.l.length ≤ L
  out : wr.ownsRow w1.heap.size 34 12 (.slice A m c) m (evV out)
  txt : wr.ownsRow w1.heap.size 9 1 (.slice At mt ct) mt (strV tx)
theorem R40.step {b L : Nat} {w1 : World} {r r' : Rd} {A : Option Addr} {m c : Nat} {out : List EvR} {At : Option Addr} {mt ct : Nat} {tx : List (List UInt8)} {wr w' : World} (h : R40 b L w1 r A m c out At mt ct tx wr) (hb : b < w1.heap.size) (h1 : RdAt 73 w' b r') (h2 : KeptBut b wr w') (hl : r'.l.length ≤ r.l.length) : R40 b L w1 r' A m c out At mt ct tx w' :=
  ⟨h1, h.kept.trans h2, Nat.le_trans hl h.len, own_keep h.out (fun q hq => h2.block q (own_lt' h.out q hq) (by have := own_ge' h.out q hq; omega)), own_keep h.txt (fun q hq => h2.block q (own_lt' h.txt q hq) (by have := own_ge' h.txt q hq; omega))⟩
theorem R40.alloc {b L : Nat} {w1 : World} {r : Rd} {A : Option Addr} {m c : Nat} {out : List EvR} {At : Option Addr} {mt ct : Nat} {tx : List (List UInt8)} {wr : World} (h : R40 b L w1 r A m c out At mt ct tx wr) (hb : b < w1.heap.size) (o : Obj) : R40 b L w1 r A m c out At mt ct tx (wr.alloc o) :=
  h.step hb (h.rd.below ((Below.refl _ _).alloc (Nat.le_refl _) o)) (KeptBut.of_below ((Below.refl _ _).alloc (Nat.le_refl _) o)) (Nat.le_refl _)
theorem R40.set {b L : Nat} {w1 : World} {r : Rd} {A : Option Addr} {m c : Nat} {out : List EvR} {At : Option Addr} {mt ct : Nat} {tx : List (List UInt8)} {wr : World} (h : R40 b L w1 r A m c out At mt ct tx wr) (xb i : Nat) (v : Value) (hxw : w1.heap.size ≤ xb) (hb : b < w1.heap.size)
    (ho : ∀ q, (Value.slice A m c).ownBlock = some q → q ≠ xb) {cs : Array Value} (hx : RowBox wr xb cs 34) : R40 b L w1 r A m c out At mt ct tx (wr.setCell ⟨xb, i, none⟩ v) :=
  ⟨h.rd.set_ne (by show b ≠ xb; omega) _, h.kept.set_new hxw _, h.len, own_keep h.out (fun q hq => heap_set_ne (ho q hq)), own_keep h.txt (fun q hq => heap_set_ne (own_ne h.txt hx (by decide) q hq))⟩
theorem R40.num {b L : Nat} {w1 : World} {r : Rd} {A : Option Addr} {m c : Nat} {out : List EvR} {At : Option Addr} {mt ct : Nat} {tx : List (List UInt8)} {wr : World} (h : R40 b L w1 r A m c out At mt ct tx wr) (hb : b < w1.heap.size) (most : Int) :
    Calls Tryd.prog 36 #[.pointer (some ⟨b, 0, none⟩), .int .i64 most] wr fun v w' => v = .returned (.int .i64 (r.num most).1) ∧ R40 b L w1 (r.num most).2 A m c out At mt ct tx w' ∧ KeptBut b wr w' :=
  (rnum_any' b r most wr h.rd).mono fun v w' ⟨e, h1, h2⟩ => ⟨e, h.step hb h1 h2 (r.num_len most), h2⟩
theorem R40.text {b L : Nat} {w1 : World} {r : Rd} {A : Option Addr} {m c : Nat} {out : List EvR} {At : Option Addr} {mt ct : Nat} {tx : List (List UInt8)} {wr : World} (h : R40 b L w1 r A m c out At mt ct tx wr) (hb : b < w1.heap.size) (most : Int) :
    Calls Tryd.prog 37 #[.pointer (some ⟨b, 0, none⟩), .int .i64 most] wr fun v w' => v = .returned (.string (bs (r.txt most).1)) ∧ R40 b L w1 (r.txt most).2 A m c out At mt ct tx w' ∧ KeptBut b wr w' :=
  (rtxt_any' b r most wr h.rd).mono fun v w' ⟨e, h1, h2⟩ => ⟨e, h.step hb h1 h2 (r.txt_len most), h2⟩
/-- A text behind the texts. -/
theorem R40.more {b L : Nat} {w1 : World} {r : Rd} {A : Option Addr} {m c : Nat} {out : List EvR} {At : Option Addr} {mt ct : Nat} {tx : List (List UInt8)} {wr w' : World} (h : R40 b L w1 r A m c out At mt ct tx wr) (hb : b < w1.heap.size) {At' : Option Addr} {ct' : Nat} {t : List UInt8}
    (ho : w'.ownsRow w1.heap.size 9 1 (.slice At' (mt + 1) ct') (mt + 1) (strV tx ++ [.string (bs t)])) (hg : wr.grownBy w' (Value.slice At mt ct).ownBlock) : R40 b L w1 r A m c out At' (mt + 1) ct' (tx ++ [t]) w' := by
  have hbr := h.rd.lt
  refine ⟨h.rd.of_block (hg.block b hbr (fun e => by have := own_ge' h.txt b e.symm; omega)), h.kept.grown hg (fun q e => own_ge' h.txt q e), h.len, own_keep h.out (fun q hq => hg.block q (own_lt' h.out q hq) (own_apart h.out h.txt (by decide) q hq)), ?_⟩
  have e : strV (tx ++ [t]) = strV tx ++ [.string (bs t)] := by simp [strV]
  rw [e]
  exact ho
/-- An event behind the events. -/
theorem R40.more2 {b L : Nat} {w1 : World} {r : Rd} {A : Option Addr} {m c : Nat} {out : List EvR} {At : Option Addr} {mt ct : Nat} {tx : List (List UInt8)} {wr w' : World} (h : R40 b L w1 r A m c out At mt ct tx wr) (hb : b < w1.heap.size) {A' : Option Addr} {c' : Nat} {x : EvR}
    (ho : w'.ownsRow w1.heap.size 34 12 (.slice A' (m + 1) c') (m + 1) (evV out ++ x.cells.toList)) (hg : wr.grownBy w' (Value.slice A m c).ownBlock) : R40 b L w1 r A' (m + 1) c' (out ++ [x]) At mt ct tx w' := by
  have hbr := h.rd.lt
  refine ⟨h.rd.of_block (hg.block b hbr (fun e => by have := own_ge' h.out b e.symm; omega)), h.kept.grown hg (fun q e => own_ge' h.out q e), h.len, ?_, own_keep h.txt (fun q hq => hg.block q (own_lt' h.txt q hq) (own_apart h.txt h.out (by decide) q hq))⟩
  have e : evV (out ++ [x]) = evV out ++ x.cells.toList := by rw [show evV (out ++ [x]) = evV out ++ evV [x] from rowV_append _ _ _]; simp [rowV]
  rw [e]
  exact ho
theorem info_S : (Tryd.prog.info? 9).map (fun i => (i.zero, i.size, i.bytes)) = some (some (.string ByteArray.empty), 1, 16) := by kernel_rfl
/-- A text among the texts. -/
theorem strV_one (l : List (List UInt8)) : ∀ u ∈ strV l, u.oneCell' = true := by
  intro u hu
  simp only [strV, List.mem_map] at hu
  obtain ⟨x, _, rfl⟩ := hu
  rfl
theorem strs_own {w : World} {base n c : Nat} {A : Option Addr} {e : TypeId} {l : List (List UInt8)} (h : w.ownsRow base e 1 (.slice A n c) n (strV l)) : n = l.length ∧ ∀ i (hi : i < l.length), ∃ a, A = some a ∧ w.cell? (a.add (i * 1)) = some (.string (bs l[i])) := by
  have hn : n = l.length := by have := h.1; simp only [strV, List.length_map, Nat.mul_one] at this; omega
  refine ⟨hn, fun i hi => ?_⟩
  rcases h.2 with ⟨h1, h2⟩ | ⟨g, cap, cur, h1, hg, hb, h2, h3, h4, h5⟩
  · omega
  · cases h1
    refine ⟨_, rfl, ?_⟩
    have hc := World.ownsRow.cellAt (w := w) (base := base) (e := e) (size := 1) (n := n) (cap := c) (g := g) (xs := strV l) h i (by omega)
    rw [Nat.mul_one, addr_at, hc]
    simp [strV, hi]
/-- An operation laid into an event among the events. -/
theorem own_op {w : World} {base n c g : Nat} {l : List EvR} (h : w.ownsRow base 34 12 (.slice (some ⟨g, 0, none⟩) n c) n (evV l)) (i : Nat) (hi : i < l.length) (y : OpR) :
    ((((((((w.setCell ⟨g, i * 12 + 1, none⟩ (.int .i64 y.k)).setCell ⟨g, i * 12 + 1 + 1, none⟩ (.int .i64 y.p)).setCell ⟨g, i * 12 + 1 + 2, none⟩ (.int .i64 y.t)).setCell ⟨g, i * 12 + 1 + 3, none⟩ (.int .i64 y.n)).setCell ⟨g, i * 12 + 1 + 4, none⟩ (.int .i64 y.a)).setCell ⟨g, i * 12 + 1 + 5, none⟩ (.int .i64 y.m)).setCell ⟨g, i * 12 + 1 + 6, none⟩ (.string y.u)).setCell ⟨g, i * 12 + 1 + 7, none⟩ (.string y.v)).ownsRow base 34 12 (.slice (some ⟨g, 0, none⟩) n c) n (evV (l.set i { l[i] with op := y })) := by
  have h8 := ((((((((h.stored (i * 12 + 1) (.int .i64 y.k)).1.stored (i * 12 + 1 + 1) (.int .i64 y.p)).1.stored (i * 12 + 1 + 2) (.int .i64 y.t)).1.stored (i * 12 + 1 + 3) (.int .i64 y.n)).1.stored (i * 12 + 1 + 4) (.int .i64 y.a)).1.stored (i * 12 + 1 + 5) (.int .i64 y.m)).1.stored (i * 12 + 1 + 6) (.string y.u)).1.stored (i * 12 + 1 + 7) (.string y.v)).1
  have e : ((((((((evV l).set (i * 12 + 1) (.int .i64 y.k)).set (i * 12 + 1 + 1) (.int .i64 y.p)).set (i * 12 + 1 + 2) (.int .i64 y.t)).set (i * 12 + 1 + 3) (.int .i64 y.n)).set (i * 12 + 1 + 4) (.int .i64 y.a)).set (i * 12 + 1 + 5) (.int .i64 y.m)).set (i * 12 + 1 + 6) (.string y.u)).set (i * 12 + 1 + 7) (.string y.v) = evV (l.set i { l[i] with op := y }) := by
    have hs : l = l.take i ++ l[i] :: l.drop (i + 1) := by rw [← List.drop_eq_getElem_cons hi, List.take_append_drop]
    have hv : evV l = evV (l.take i) ++ ((l[i]).cells.toList ++ evV (l.drop (i + 1))) := by
      conv => lhs; rw [hs]
      rw [show evV (l.take i ++ l[i] :: l.drop (i + 1)) = evV (l.take i) ++ evV (l[i] :: l.drop (i + 1)) from rowV_append _ _ _]
      rfl
    have hv' : evV (l.set i { l[i] with op := y }) = evV (l.take i) ++ (({ l[i] with op := y } : EvR).cells.toList ++ evV (l.drop (i + 1))) := by
      rw [List.set_eq_take_append_cons_drop, if_pos hi, show evV (l.take i ++ ({ l[i] with op := y } : EvR) :: l.drop (i + 1)) = evV (l.take i) ++ evV (({ l[i] with op := y } : EvR) :: l.drop (i + 1)) from rowV_append _ _ _]
      rfl
    have hL : (evV (l.take i)).length = i * 12 := by rw [rowV_length EvR.cells 12 EvR.size, List.length_take, Nat.min_eq_left (by omega)]
    obtain ⟨P, hP⟩ : ∃ P, evV (l.take i) = P := ⟨_, rfl⟩
    obtain ⟨Q, hQ⟩ : ∃ Q, evV (l.drop (i + 1)) = Q := ⟨_, rfl⟩
    obtain ⟨x, hx⟩ : ∃ x, l[i] = x := ⟨_, rfl⟩
    rw [hv, hv', hP, hQ, hx]
    rw [hP] at hL
    have key : ∀ (C : List Value) (j : Nat) (u : Value), (P ++ C).set (i * 12 + j) u = P ++ C.set j u := fun C j u => by
      rw [List.set_append_right _ _ (by omega), show i * 12 + j - P.length = j by omega]
    simp only [Nat.add_assoc, Nat.reduceAdd]
    rw [key, key, key, key, key, key, key, key]
    rfl
  rw [e] at h8
  exact h8
end Go.Proofs.YtjmfdacnaodfdaaDoor

namespace Go.Proofs.YtjmfdacnaodfdaaDoor
set_option linter.unusedVariables false
set_option linter.unusedSimpArgs false
open Go.RowKit

/-- What is known of the events when i of them have their operations, or of the error. -/
def MidT (RT : List EvR × Int) (acc : List RawR) (i : Nat) (f : Int) (evs : List EvR) : Prop :=
  (f = 0 ∧ wholeLoop (acc.drop i) (evs.take i) = RT ∧ evs.drop i = (acc.drop i).map RawR.ev) ∨ (f ≠ 0 ∧ RT = ([], f))

set_option maxHeartbeats 8000000 in
set_option maxRecDepth 100000 in
theorem rread40_any (s : List UInt8) (hs : s.length ≤ 1000000000) (w : World) (hd : Flds w) (h0 : 0 < w.heap.size) :
    Calls Tryd.prog 13 #[.string (bs s)] w (ReadTPost (readT s) w) := by
  obtain ⟨S, hS⟩ : ∃ S, bs s = S := ⟨_, rfl⟩
  obtain ⟨w1, hw1⟩ : ∃ W, w.alloc (.cells #[.string S, .int .i64 0] 73) = W := ⟨_, rfl⟩
  have hb1 : Below w.heap.size w w1 := by rw [← hw1]; exact (Below.refl _ _).alloc (Nat.le_refl _) _
  have hz1 : w1.heap.size = w.heap.size + 1 := by rw [← hw1]; simp
  have hr1 : RdAt 73 w1 w.heap.size ⟨s, 0⟩ := by rw [← hw1, ← hS]; exact World.alloc_heap_new _ _
  have HNUM := Lib.hid (rnum_any' w.heap.size ⟨s, 0⟩ 400 w1 hr1)
  obtain ⟨N, hN, hN30⟩ := (⟨s, 0⟩ : Rd).num_nat 400
  have hN4 : N ≤ 400 := by have := (⟨s, 0⟩ : Rd).num_le 400 (by omega); omega
  obtain ⟨R0, hR0⟩ : ∃ R0, ((⟨s, 0⟩ : Rd).num 400).2 = R0 := ⟨_, rfl⟩
  obtain ⟨RR, hRR⟩ : ∃ RR, rawLoop N R0 [] = RR := ⟨_, rfl⟩
  have HRM : Hid (readT s = if RR.2.done ≠ 0 then ([], RR.2.done) else wholeLoop RR.1 []) := Lib.hid (by unfold readT; simp only [hN, hR0, Int.toNat_natCast, hRR])
  have HL0 : Hid (R0.l.length ≤ s.length) := Lib.hid (by rw [← hR0]; exact (⟨s, 0⟩ : Rd).num_len 400)
  have HST := Lib.hid hRR
  rw [hN, hR0] at HNUM
  obtain ⟨RT, hRT⟩ : ∃ RT, readT s = RT := ⟨_, rfl⟩
  have HRT := Lib.hid hRT
  have HB1 := Lib.hid hb1
  have HZ1 : Hid (w.heap.size < w1.heap.size) := Lib.hid (by omega)
  have HD1 := Lib.hid (hd.below hb1)
  obtain ⟨i0, hi, hz0, hz1', hz2⟩ := info_parts info_Ev
  have HI := Lib.hid (And.intro hi (And.intro hz0 (And.intro hz1' hz2)))
  obtain ⟨i1, hi, hz0, hz1', hz2⟩ := info_parts info_S
  have HI1 := Lib.hid (And.intro hi (And.intro hz0 (And.intro hz1' hz2)))
  have HS := Lib.hid hs
  rw [hS, hRT]
  clear hi hz0 hz1' hz2 hb1 hr1 hd hz1 hN hR0 hRR hRT hS hs
  go_enter Tryd.func13, Tryd.ntmps13
  go_wp2_with fail
  refine HNUM.out.mono ?_
  rintro e w2 ⟨rfl, h1, h2⟩
  have HS2 : Hid (R40 w.heap.size s.length w1 R0 none 0 0 [] none 0 0 [] w2) := Lib.hid ⟨h1, h2, HL0.out, World.ownsRow_nil _ _ _ _, World.ownsRow_nil _ _ _ _⟩
  clear h1 h2 hw1
  go_wp2_with fail
  go_loopg [6, 7, 8, 9] N (fun g t6 t7 t8 t9 wr => ∃ (k m : Nat) (A : Option Addr) (c mt : Nat) (At : Option Addr) (ct : Nat) (acc : List RawR) (r : Rd), Hid (g = N - k ∧ k ≤ N ∧ acc.length = k ∧ m = k ∧ mt = k) ∧ t8 = .int .i64 k ∧ t6 = .slice A m c ∧ t7 = .slice At mt ct ∧ Hid (rawLoop (N - k) r acc = RR ∧ ∀ x ∈ acc, x.s.length ≤ s.length) ∧ Hid (R40 w.heap.size s.length w1 r A m c (acc.map RawR.ev) At mt ct (acc.map RawR.s) wr))
  case atStart => exact ⟨0, 0, none, 0, 0, none, 0, [], R0, ⟨rfl, Nat.zero_le _, rfl, rfl, rfl⟩, rfl, rfl, rfl, ⟨HST.out, fun x hx => by cases hx⟩, HS2.out⟩
  case round =>
    obtain ⟨k, m, A, cc, mt, At, ct, acc, r, HG, rfl, rfl, rfl, HU, HR⟩ := hrel
    have hk0 : (0 : Int) ≤ k := by omega
    have c1 := HR.out.rd.cells.2.1
    by_cases hlt : k < N
    · have hlt' : (k : Int) < N := by omega
      by_cases he : r.e = 0
      · obtain ⟨a1, ha1⟩ : ∃ v, (r.num 399).1 = v := ⟨_, rfl⟩
        obtain ⟨r1, hr1⟩ : ∃ v, (r.num 399).2 = v := ⟨_, rfl⟩
        obtain ⟨a2, ha2⟩ : ∃ v, (r1.num 1073741824).1 = v := ⟨_, rfl⟩
        obtain ⟨r2, hr2⟩ : ∃ v, (r1.num 1073741824).2 = v := ⟨_, rfl⟩
        obtain ⟨a3, ha3⟩ : ∃ v, (r2.txt 65536).1 = v := ⟨_, rfl⟩
        obtain ⟨r3, hr3⟩ : ∃ v, (r2.txt 65536).2 = v := ⟨_, rfl⟩
        obtain ⟨s3, hs3⟩ : ∃ v, bs a3 = v := ⟨_, rfl⟩
        obtain ⟨a4, ha4⟩ : ∃ v, (r3.num 63).1 = v := ⟨_, rfl⟩
        obtain ⟨r4, hr4⟩ : ∃ v, (r3.num 63).2 = v := ⟨_, rfl⟩
        obtain ⟨a5, ha5⟩ : ∃ v, (r4.num 1048576).1 = v := ⟨_, rfl⟩
        obtain ⟨r5, hr5⟩ : ∃ v, (r4.num 1048576).2 = v := ⟨_, rfl⟩
        have hT : takeT r = (⟨a1, a2, a4, a5, a3⟩, r5) := by unfold takeT; simp only [ha1, hr1, ha2, hr2, ha3, hr3, ha4, hr4, ha5, hr5]
        have HU2 : Hid (rawLoop (N - (k + 1)) r5 (acc ++ [⟨a1, a2, a4, a5, a3⟩]) = RR) := Lib.hid (by
          have h := HU.out.1
          rw [show N - k = (N - (k + 1)) + 1 by omega] at h
          unfold rawLoop at h
          rw [if_neg (by simpa using he), hT] at h
          exact h)
        have HLR : Hid (a3.length ≤ s.length) := Lib.hid (by have h := (takeT_len r).2; rw [hT] at h; exact Nat.le_trans h HR.out.len)
        have H1 := Lib.hid (And.intro ha1 hr1)
        have H2 := Lib.hid (And.intro ha2 hr2)
        have H3 := Lib.hid (And.intro (And.intro ha3 hs3) hr3)
        have H4 := Lib.hid (And.intro ha4 hr4)
        have H5 := Lib.hid (And.intro ha5 hr5)
        rw [he] at c1
        clear he hT ha1 hr1 ha2 hr2 ha3 hs3 hr3 ha4 hr4 ha5 hr5
        go_wp2_with fail
        refine (HR.out.num HZ1.out 399).mono ?_
        rintro e w5 ⟨rfl, h1, _⟩
        rw [H1.out.1]
        rw [H1.out.2] at h1
        obtain ⟨xb, hxb⟩ : ∃ xb, w5.heap.size = xb := ⟨_, rfl⟩
        have HXB := Lib.hid hxb
        have HXO : Hid (∀ q, (Value.slice A m cc).ownBlock = some q → q ≠ xb) := Lib.hid (fun q hq => by have := own_lt' h1.out q hq; omega)
        have HXW : Hid (w1.heap.size ≤ xb) := Lib.hid (by have := h1.kept.size; omega)
        have HXBN : Hid (xb ≠ w.heap.size) := Lib.hid (by have := HXW.out; have := HZ1.out; omega)
        have hR5 := h1.alloc HZ1.out (.cells #[.int .i64 a1, .int .i64 0, .int .i64 0, .int .i64 0, .int .i64 0, .int .i64 0, .int .i64 0, .string ⟨#[]⟩, .string ⟨#[]⟩, .int .i64 0, .int .i64 0, .int .i64 0] 34)
        have hX5 : RowBox (w5.alloc (.cells #[.int .i64 a1, .int .i64 0, .int .i64 0, .int .i64 0, .int .i64 0, .int .i64 0, .int .i64 0, .string ⟨#[]⟩, .string ⟨#[]⟩, .int .i64 0, .int .i64 0, .int .i64 0] 34)) xb #[.int .i64 a1, .int .i64 0, .int .i64 0, .int .i64 0, .int .i64 0, .int .i64 0, .int .i64 0, .string ⟨#[]⟩, .string ⟨#[]⟩, .int .i64 0, .int .i64 0, .int .i64 0] 34 := by rw [← hxb]; exact World.alloc_heap_new _ _
        have HR5 := Lib.hid hR5
        have HX5 := Lib.hid hX5
        clear h1 hR5 hX5 c1
        go_wp2_with fail
        refine (HR5.out.num HZ1.out 1073741824).mono ?_
        rintro e w6 ⟨rfl, h1, h2⟩
        rw [H2.out.1]
        rw [H2.out.2] at h1
        have hx6 := HX5.out.keptBut h2 HXBN.out
        have z9 := hx6.frozen 9
        have y9 : w6.cell? ⟨xb, 9, none⟩ = some (.int .i64 0) := hx6.cell 9
        have HR6 := Lib.hid (h1.set xb 9 (.int .i64 a2) HXW.out HZ1.out HXO.out hx6)
        have HX6 := Lib.hid (hx6.set (cs' := #[.int .i64 a1, .int .i64 0, .int .i64 0, .int .i64 0, .int .i64 0, .int .i64 0, .int .i64 0, .string ⟨#[]⟩, .string ⟨#[]⟩, .int .i64 a2, .int .i64 0, .int .i64 0]) 9 (.int .i64 a2) rfl)
        obtain ⟨W6, hW6⟩ : ∃ W, w6.setCell ⟨xb, 9, none⟩ (.int .i64 a2) = W := ⟨_, rfl⟩
        rw [hW6] at HR6 HX6
        clear h1 h2 hx6 hxb
        go_wp2_with fail
        clear z9 y9 hW6
        refine (HR6.out.text HZ1.out 65536).mono ?_
        rintro e w7 ⟨rfl, h1, h2⟩
        rw [H3.out.1.1]
        rw [H3.out.2] at h1
        rw [H3.out.1.2]
        have HR7 := Lib.hid h1
        have HX7 := Lib.hid (HX6.out.keptBut h2 HXBN.out)
        clear h1 h2
        go_wp2_with (at_builtin; refine wpList_append_own _ rfl _ _ 74 rfl w1.heap.size 9 i1 (.string ByteArray.empty) 1 16 Tryd.underlying74 HI1.out.1 HI1.out.2.1 HI1.out.2.2.1 HI1.out.2.2.2 rfl (by decide) (.slice At mt ct) mt (strV (acc.map RawR.s)) rfl (HR7.out.txt.alloc _) _ 1 1 [.string s3] rfl rfl (cells_new w7 _ _) (by simp [Value.oneCell']) (by have := HG.out; unfold maxLen; omega) (by have := HG.out; omega) (by have := HR7.out.kept.size; simp; omega) ?_; intro v' w8 hown' hgrow hnil)
        obtain ⟨At4, ct4, hv⟩ := own_shape hown'
        subst hv
        rw [← H3.out.1.2] at hown'
        have HX8 : Hid (RowBox w8 xb #[.int .i64 a1, .int .i64 0, .int .i64 0, .int .i64 0, .int .i64 0, .int .i64 0, .int .i64 0, .string ⟨#[]⟩, .string ⟨#[]⟩, .int .i64 a2, .int .i64 0, .int .i64 0] 34) := Lib.hid ((HX7.out.below ((Below.refl _ _).alloc (Nat.le_refl _) _)).of_block (hgrow.block xb (by have := HX7.out.lt; simp; omega) (fun e => own_ne HR7.out.txt HX7.out (by decide) xb e.symm rfl)))
        have HR8 := Lib.hid ((HR7.out.alloc HZ1.out _).more HZ1.out hown' hgrow)
        clear hown' hgrow hnil
        go_wp2_with fail
        refine (HR8.out.num HZ1.out 63).mono ?_
        rintro e w9 ⟨rfl, h1, h2⟩
        rw [H4.out.1]
        rw [H4.out.2] at h1
        have hx9 := HX8.out.keptBut h2 HXBN.out
        have z10 := hx9.frozen 10
        have y10 : w9.cell? ⟨xb, 10, none⟩ = some (.int .i64 0) := hx9.cell 10
        have HR9 := Lib.hid (h1.set xb 10 (.int .i64 a4) HXW.out HZ1.out HXO.out hx9)
        have HX9 := Lib.hid (hx9.set (cs' := #[.int .i64 a1, .int .i64 0, .int .i64 0, .int .i64 0, .int .i64 0, .int .i64 0, .int .i64 0, .string ⟨#[]⟩, .string ⟨#[]⟩, .int .i64 a2, .int .i64 a4, .int .i64 0]) 10 (.int .i64 a4) rfl)
        obtain ⟨W9, hW9⟩ : ∃ W, w9.setCell ⟨xb, 10, none⟩ (.int .i64 a4) = W := ⟨_, rfl⟩
        rw [hW9] at HR9 HX9
        clear h1 h2 hx9
        go_wp2_with fail
        clear z10 y10 hW9
        refine (HR9.out.num HZ1.out 1048576).mono ?_
        rintro e w10 ⟨rfl, h1, h2⟩
        rw [H5.out.1]
        rw [H5.out.2] at h1
        have hx10 := HX9.out.keptBut h2 HXBN.out
        have z11 := hx10.frozen 11
        have y11 : w10.cell? ⟨xb, 11, none⟩ = some (.int .i64 0) := hx10.cell 11
        have HR10 := Lib.hid (h1.set xb 11 (.int .i64 a5) HXW.out HZ1.out HXO.out hx10)
        have hx11 := hx10.set (cs' := #[.int .i64 a1, .int .i64 0, .int .i64 0, .int .i64 0, .int .i64 0, .int .i64 0, .int .i64 0, .string ⟨#[]⟩, .string ⟨#[]⟩, .int .i64 a2, .int .i64 a4, .int .i64 a5]) 11 (.int .i64 a5) rfl
        obtain ⟨W10, hW10⟩ : ∃ W, w10.setCell ⟨xb, 11, none⟩ (.int .i64 a5) = W := ⟨_, rfl⟩
        rw [hW10] at HR10 hx11
        have x0 := hx11.cell 0
        have x1 := hx11.cell 1
        have x2 := hx11.cell 2
        have x3 := hx11.cell 3
        have x4 := hx11.cell 4
        have x5 := hx11.cell 5
        have x6 := hx11.cell 6
        have x7 := hx11.cell 7
        have x8 := hx11.cell 8
        have x9 := hx11.cell 9
        have x10 := hx11.cell 10
        have x11 := hx11.cell 11
        simp only [List.getElem?_toArray, List.getElem?_cons_zero, List.getElem?_cons_succ] at x0 x1 x2 x3 x4 x5 x6 x7 x8 x9 x10 x11
        clear h1 h2 hx10 hx11
        go_wp2_with (at_builtin; refine wpList_append_own _ rfl _ _ 22 rfl w1.heap.size 34 i0 evZ 12 112 Tryd.underlying22 HI.out.1 HI.out.2.1 HI.out.2.2.1 HI.out.2.2.2 rfl (by decide) (.slice A m cc) m (evV (acc.map RawR.ev)) rfl (HR10.out.out.alloc _) _ 1 1 (EvR.cells ⟨a1, zeroR, a2, a4, a5⟩).toList rfl rfl (cells_new W10 _ _) (EvR.one _) (by have := HG.out; unfold maxLen; omega) (by have := HG.out; omega) (by have := HR10.out.kept.size; simp; omega) ?_; intro v' w11 hown' hgrow hnil)
        obtain ⟨A4, c4, hv⟩ := own_shape hown'
        subst hv
        have HR11 : Hid (R40 w.heap.size s.length w1 r5 A4 (m + 1) c4 ((acc ++ [(⟨a1, a2, a4, a5, a3⟩ : RawR)]).map RawR.ev) At4 (mt + 1) ct4 ((acc ++ [(⟨a1, a2, a4, a5, a3⟩ : RawR)]).map RawR.s) w11) := Lib.hid (by
          have h := (HR10.out.alloc HZ1.out _).more2 HZ1.out hown' hgrow
          simp only [List.map_append, List.map_cons, List.map_nil]
          exact h)
        clear hown' hgrow hnil z11 y11 hW10 x0 x1 x2 x3 x4 x5 x6 x7 x8 x9 x10 x11
        go_wp2_with fail
        go_roundg (N - (k + 1))
        case rel => exact ⟨k + 1, m + 1, A4, c4, mt + 1, At4, ct4, acc ++ [⟨a1, a2, a4, a5, a3⟩], r5, ⟨rfl, hlt, by have := HG.out; simp; omega, by have := HG.out; omega, by have := HG.out; omega⟩, by go_num, rfl, rfl, ⟨HU2.out, fun y hy => by
          rcases List.mem_append.1 hy with h | h
          · exact HU.out.2 y h
          · obtain rfl : y = ⟨a1, a2, a4, a5, a3⟩ := by simpa using h
            exact HLR.out⟩, HR11⟩
        case measure => have := HG.out; omega
      · obtain ⟨D, hD⟩ : ∃ D, r.e = D := ⟨_, rfl⟩
        have HDN := Lib.hid (rdone_any' w.heap.size r wr HR.out.rd)
        rw [Rd.done_stop _ he, hD] at HDN
        have HRTE : Hid (RT = ([], D)) := Lib.hid (by
          have h := HU.out.1
          rw [rawLoop_stop _ _ he] at h
          rw [← HRT.out, HRM.out, ← h]
          simp only
          rw [Rd.done_stop _ he, if_pos he, hD])
        rw [hD] at he c1
        have HD0 := Lib.hid he
        have he2 : (D == 0) = false := by simpa using he
        have he3 : (D != 0) = true := by simpa using he
        clear he hD
        go_wp2_with fail
        refine HDN.out.mono ?_
        rintro e w5 ⟨rfl, rfl⟩
        go_wp2_with fail
        go_loopg [10, 11, 12, 13] 0 (fun g t10 t11 t12 t13 wq => t10 = .int .i64 D ∧ t11 = .int .i64 0 ∧ wr = wq)
        case atStart => exact ⟨rfl, rfl, rfl⟩
        case round =>
          obtain ⟨rfl, rfl, rfl⟩ := hrel
          by_cases hm0 : (0 : Int) < m
          · go_wp2_with fail
            go_ret2
            rw [HRTE.out]
            exact ⟨fun h => absurd h HD0.out, fun _ => rfl, HB1.out.trans (HR.out.kept.below (Nat.le_refl _) (Nat.le_of_lt HZ1.out))⟩
          · go_wp2_with fail
            go_ret2
            rw [HRTE.out]
            exact ⟨fun h => absurd h HD0.out, fun _ => rfl, HB1.out.trans (HR.out.kept.below (Nat.le_refl _) (Nat.le_of_lt HZ1.out))⟩
    · have hlt' : ¬ (k : Int) < N := by omega
      have HRRE : Hid (RR = (acc, r)) := Lib.hid (by
        have h := HU.out.1
        rw [show N - k = 0 by omega] at h
        exact h.symm)
      have HDN := Lib.hid (rdone_any' w.heap.size r wr HR.out.rd)
      obtain ⟨D, hD⟩ : ∃ D, r.done = D := ⟨_, rfl⟩
      rw [hD] at HDN
      have HDD : Hid (RT = if D ≠ 0 then ([], D) else wholeLoop acc []) := Lib.hid (by rw [← HRT.out, HRM.out, HRRE.out]; simp only [hD])
      clear hD c1
      by_cases hd0 : D = 0
      · subst hd0
        have HRW : Hid (RT = wholeLoop acc []) := Lib.hid (by rw [HDD.out, if_neg (by simp)])
        obtain ⟨wo, hwo⟩ : ∃ wo : World, wo = wr := ⟨_, rfl⟩
        subst hwo
        have HBW0 : Hid (Below w.heap.size w wo) := Lib.hid (HB1.out.trans (HR.out.kept.below (Nat.le_refl _) (Nat.le_of_lt HZ1.out)))
        have HFL0 : Hid (Flds wo) := Lib.hid (HD1.out.of_block (HR.out.kept.block 0 (by have := HZ1.out; omega) (by omega)))
        have HMM : Hid (m = acc.length ∧ m ≤ 400 ∧ mt = m) := Lib.hid (by have := HG.out; omega)
        clear hlt hk0
        go_wp2_with fail
        refine HDN.out.mono ?_
        rintro e w5 ⟨rfl, rfl⟩
        go_wp2_with fail
        go_loopg [10, 11, 12, 13] m (fun g t10 t11 t12 t13 wr => ∃ (i : Nat) (f : Int) (evs : List EvR), Hid (g = m - i ∧ i ≤ m ∧ evs.length = m) ∧ t11 = .int .i64 i ∧ t10 = .int .i64 f ∧ Hid (MidT RT acc i f evs) ∧ Hid (wr.ownsRow w1.heap.size 34 12 (.slice A m cc) m (evV evs)) ∧ Hid (wr.ownsRow w1.heap.size 9 1 (.slice At mt ct) mt (strV (acc.map RawR.s))) ∧ Hid (Below w.heap.size w wr ∧ Flds wr))
        case atStart => exact ⟨0, 0, acc.map RawR.ev, ⟨rfl, Nat.zero_le _, by rw [List.length_map]; exact HMM.out.1.symm⟩, rfl, rfl, .inl ⟨rfl, by simpa using HRW.out.symm, by simp⟩, HR.out.out, HR.out.txt, HBW0.out, HFL0.out⟩
        case round =>
          obtain ⟨i, f, evs, HG2, rfl, rfl, HMID, HOUT, HTXT, HWB⟩ := hrel
          have hi0 : (0 : Int) ≤ i := by omega
          by_cases hit : i < m
          · have hit' : (i : Int) < m := by omega
            by_cases hf : f = 0
            · subst hf
              have hmid : wholeLoop (acc.drop i) (evs.take i) = RT ∧ evs.drop i = (acc.drop i).map RawR.ev := by
                rcases HMID.out with ⟨_, h1, h2⟩ | ⟨h, _⟩
                · exact ⟨h1, h2⟩
                · exact absurd rfl h
              have hia : i < acc.length := by have := HMM.out; omega
              have hie : i < evs.length := by have := HG2.out; omega
              obtain ⟨x, hx⟩ : ∃ x, acc[i]'hia = x := ⟨_, rfl⟩
              have hxl := HU.out.2 x (by rw [← hx]; exact List.getElem_mem _)
              have hev : evs[i]'hie = x.ev := by
                have h := hmid.2
                rw [List.drop_eq_getElem_cons hie, List.drop_eq_getElem_cons hia, List.map_cons, hx] at h
                exact (List.cons.inj h).1
              have hevd : evs.drop (i + 1) = (acc.drop (i + 1)).map RawR.ev := by
                have h := hmid.2
                rw [List.drop_eq_getElem_cons hie, List.drop_eq_getElem_cons hia, List.map_cons] at h
                exact (List.cons.inj h).2
              have hwl : (if (wholeM x).2 ≠ 0 then ([], (wholeM x).2) else wholeLoop (acc.drop (i + 1)) (evs.take i ++ [(wholeM x).1])) = RT := by
                have h := hmid.1
                rw [List.drop_eq_getElem_cons hia, hx] at h
                exact h
              have HX := Lib.hid (And.intro hev (And.intro hevd hwl))
              have hmapi : i < (acc.map RawR.s).length := by rw [List.length_map]; exact hia
              obtain ⟨a, rfl, hct⟩ := (strs_own HTXT.out).2 i hmapi
              rw [List.getElem_map, hx, Nat.mul_one] at hct
              have HRD := Lib.hid (rread34_any x.s (by have := HS.out; omega) wr HWB.out.2 (by have := HWB.out.1.size; omega))
              have HWM : Hid (wholeM x = if (readM x.s).2 ≠ 0 then (⟨0, zeroR, 0, 0, 0⟩, (readM x.s).2) else match (readM x.s).1 with | [op] => (⟨x.at_, op, x.err, x.dp, x.dc⟩, evM ⟨x.at_, op, x.err, x.dp, x.dc⟩) | _ => (⟨0, zeroR, 0, 0, 0⟩, 7)) := Lib.hid rfl
              obtain ⟨l, E, hR⟩ : ∃ l E, readM x.s = (l, E) := ⟨_, _, rfl⟩
              rw [hR] at HRD HWM
              obtain ⟨XS, hXS⟩ : ∃ XS, bs x.s = XS := ⟨_, rfl⟩
              rw [hXS] at HRD hct
              have hmt' : (i : Int) < mt := by have := HMM.out; omega
              have hi400 : (i : Int) < 400 := by have := HMM.out; omega
              clear hmid hx hxl hev hevd hwl hmapi hR hXS
              by_cases hE : E = 0
              · subst hE
                rcases (show (∃ op, l = [op]) ∨ l.length ≠ 1 by
                  match l with
                  | [] => right; simp
                  | [a] => left; exact ⟨a, rfl⟩
                  | a :: b :: t => right; simp) with ⟨op, hl⟩ | hl
                · subst hl
                  have HW : Hid (wholeM x = (⟨x.at_, op, x.err, x.dp, x.dc⟩, evM ⟨x.at_, op, x.err, x.dp, x.dc⟩)) := Lib.hid (by rw [HWM.out]; simp)
                  obtain ⟨k', p', t', n', a', m', u', v'⟩ := op
                  go_wp2_with fail
                  refine HRD.out.mono ?_
                  rintro e w3 ⟨⟨h1, _⟩, hb3⟩
                  obtain ⟨A3, c3, rfl, hA3⟩ := h1 rfl
                  obtain ⟨ad, rfl, hc8⟩ := hA3 0 (by simp)
                  obtain ⟨d0, d1, d2, d3, d4, d5, d6, d7⟩ := hc8
                  simp only [List.getElem_cons_zero, Nat.zero_mul, addr_zero] at d0 d1 d2 d3 d4 d5 d6 d7
                  have HB3 := Lib.hid hb3
                  have HOUT3 := Lib.hid (own_keep HOUT.out (fun q hq => HB3.out.block q (own_lt' HOUT.out q hq)))
                  obtain ⟨g, rfl, hgb, hcE⟩ := (rows_own EvR.cells 12 EvR.size (by decide) HOUT3.out).2 i hie
                  have hfz : ∀ j, w3.frozen? ⟨g, j, none⟩ = false := fun j => World.ownsRow.frozenAt HOUT3.out j
                  have HGB := Lib.hid hgb
                  have hmm' : (i : Int) < m := hit'
                  have y1 := hcE 1 _ (by decide) rfl
                  have f1 := hfz (i * 12 + 1)
                  have y2 := hcE 2 _ (by decide) rfl
                  have f2 := hfz (i * 12 + 2)
                  have y3 := hcE 3 _ (by decide) rfl
                  have f3 := hfz (i * 12 + 3)
                  have y4 := hcE 4 _ (by decide) rfl
                  have f4 := hfz (i * 12 + 4)
                  have y5 := hcE 5 _ (by decide) rfl
                  have f5 := hfz (i * 12 + 5)
                  have y6 := hcE 6 _ (by decide) rfl
                  have f6 := hfz (i * 12 + 6)
                  have y7 := hcE 7 _ (by decide) rfl
                  have f7 := hfz (i * 12 + 7)
                  have y8 := hcE 8 _ (by decide) rfl
                  have f8 := hfz (i * 12 + 8)
                  clear h1 hb3 hfz hcE hgb hct
                  go_upto_region 24 with (fail)
                  have hop := own_op HOUT3.out i hie ⟨k', p', t', n', a', m', u', v'⟩
                  have hxe : ({ evs[i] with op := ⟨k', p', t', n', a', m', u', v'⟩ } : EvR) = ⟨x.at_, ⟨k', p', t', n', a', m', u', v'⟩, x.err, x.dp, x.dc⟩ := by rw [HX.out.1]; rfl
                  rw [hxe] at hop
                  have HTX3 := own_keep HTXT.out (fun q hq => HB3.out.block q (own_lt' HTXT.out q hq))
                  have hne : ∀ q, (Value.slice (some a) mt ct).ownBlock = some q → q ≠ g := fun q hq e => own_apart HTX3 HOUT3.out (by decide) q hq (by rw [e]; rfl)
                  have hg0 : w.heap.size ≤ g := by have := HGB.out; have := HZ1.out; omega
                  have hBel : Below w.heap.size w w3 := HWB.out.1.trans (HB3.out.mono HWB.out.1.size)
                  have HB4 := (((((((hBel.setCell (p := ⟨g, i * 12 + 1, none⟩) hg0 (.int .i64 k')).setCell (p := ⟨g, i * 12 + 1 + 1, none⟩) hg0 (.int .i64 p')).setCell (p := ⟨g, i * 12 + 1 + 2, none⟩) hg0 (.int .i64 t')).setCell (p := ⟨g, i * 12 + 1 + 3, none⟩) hg0 (.int .i64 n')).setCell (p := ⟨g, i * 12 + 1 + 4, none⟩) hg0 (.int .i64 a')).setCell (p := ⟨g, i * 12 + 1 + 5, none⟩) hg0 (.int .i64 m')).setCell (p := ⟨g, i * 12 + 1 + 6, none⟩) hg0 (.string u')).setCell (p := ⟨g, i * 12 + 1 + 7, none⟩) hg0 (.string v')
                  have hhp : ∀ q, q ≠ g → ((((((((w3.setCell ⟨g, i * 12 + 1, none⟩ (.int .i64 k')).setCell ⟨g, i * 12 + 1 + 1, none⟩ (.int .i64 p')).setCell ⟨g, i * 12 + 1 + 2, none⟩ (.int .i64 t')).setCell ⟨g, i * 12 + 1 + 3, none⟩ (.int .i64 n')).setCell ⟨g, i * 12 + 1 + 4, none⟩ (.int .i64 a')).setCell ⟨g, i * 12 + 1 + 5, none⟩ (.int .i64 m')).setCell ⟨g, i * 12 + 1 + 6, none⟩ (.string u')).setCell ⟨g, i * 12 + 1 + 7, none⟩ (.string v')).heap[q]? = w3.heap[q]? := fun q hq => by simp only [heap_set_ne (p := ⟨g, _, none⟩) hq]
                  obtain ⟨w4, hw4⟩ : ∃ W, ((((((((w3.setCell ⟨g, i * 12 + 1, none⟩ (.int .i64 k')).setCell ⟨g, i * 12 + 1 + 1, none⟩ (.int .i64 p')).setCell ⟨g, i * 12 + 1 + 2, none⟩ (.int .i64 t')).setCell ⟨g, i * 12 + 1 + 3, none⟩ (.int .i64 n')).setCell ⟨g, i * 12 + 1 + 4, none⟩ (.int .i64 a')).setCell ⟨g, i * 12 + 1 + 5, none⟩ (.int .i64 m')).setCell ⟨g, i * 12 + 1 + 6, none⟩ (.string u')).setCell ⟨g, i * 12 + 1 + 7, none⟩ (.string v')) = W := ⟨_, rfl⟩
                  rw [hw4] at hop HB4 hhp ⊢
                  have HTX4 := Lib.hid (own_keep HTX3 (fun q hq => hhp q (hne q hq)))
                  have HFL4 : Hid (Flds w4) := Lib.hid ((HWB.out.2.below HB3.out).of_block (hhp 0 (by omega)))
                  have HOP := Lib.hid hop
                  have HBE4 := Lib.hid HB4
                  have hie2 : i < (evs.set i ⟨x.at_, ⟨k', p', t', n', a', m', u', v'⟩, x.err, x.dp, x.dc⟩).length := by rw [List.length_set]; exact hie
                  obtain ⟨g', hgg, _, hc4⟩ := (rows_own EvR.cells 12 EvR.size (by decide) HOP.out).2 i hie2
                  obtain rfl : g = g' := by simpa using hgg
                  rw [List.getElem_set_self] at hc4
                  have HCK := Lib.hid (rcheck40_any ⟨x.at_, ⟨k', p', t', n', a', m', u', v'⟩, x.err, x.dp, x.dc⟩ w4 HFL4.out)
                  obtain ⟨F, hF⟩ : ∃ F, evM ⟨x.at_, ⟨k', p', t', n', a', m', u', v'⟩, x.err, x.dp, x.dc⟩ = F := ⟨_, rfl⟩
                  rw [hF] at HCK HW
                  have HMI : Hid (MidT RT acc (i + 1) F (evs.set i ⟨x.at_, ⟨k', p', t', n', a', m', u', v'⟩, x.err, x.dp, x.dc⟩)) := Lib.hid (by
                    have h := HX.out.2.2
                    rw [HW.out] at h
                    simp only at h
                    by_cases hF0 : F = 0
                    · rw [if_neg (by simpa using hF0)] at h
                      refine .inl ⟨hF0, ?_, ?_⟩
                      · rw [← h, List.take_succ_eq_append_getElem hie2, List.getElem_set_self, List.take_set_of_le (Nat.le_refl _)]
                      · rw [List.drop_set_of_lt (by omega)]
                        exact HX.out.2.1
                    · rw [if_pos hF0] at h
                      exact .inr ⟨hF0, h.symm⟩)
                  simp only [EvR.cells] at HCK
                  have z0 := hc4 0 _ (by decide) rfl
                  have z1 := hc4 1 _ (by decide) rfl
                  have z2 := hc4 2 _ (by decide) rfl
                  have z3 := hc4 3 _ (by decide) rfl
                  have z4 := hc4 4 _ (by decide) rfl
                  have z5 := hc4 5 _ (by decide) rfl
                  have z6 := hc4 6 _ (by decide) rfl
                  have z7 := hc4 7 _ (by decide) rfl
                  have z8 := hc4 8 _ (by decide) rfl
                  have z9 := hc4 9 _ (by decide) rfl
                  have z10 := hc4 10 _ (by decide) rfl
                  have z11 := hc4 11 _ (by decide) rfl
                  simp only [EvR.cells, Nat.add_zero, List.getElem?_toArray, List.getElem?_cons_zero, List.getElem?_cons_succ] at z0 z1 z2 z3 z4 z5 z6 z7 z8 z9 z10 z11
                  clear y1 y2 y3 y4 y5 y6 y7 y8 f1 f2 f3 f4 f5 f6 f7 f8 hop hxe HTX3 hne hg0 hBel HB4 hhp hw4 hie2 hgg hc4 hF HW HWM d0 d1 d2 d3 d4 d5 d6 d7
                  go_wp2_with fail
                  refine HCK.out.mono ?_
                  rintro e w5 ⟨rfl, hb5⟩
                  have HB5 := Lib.hid hb5
                  clear hb5
                  go_wp2_with fail
                  go_roundg (m - (i + 1))
                  case rel => exact ⟨i + 1, F, evs.set i ⟨x.at_, ⟨k', p', t', n', a', m', u', v'⟩, x.err, x.dp, x.dc⟩, ⟨rfl, hit, by rw [List.length_set]; exact HG2.out.2.2⟩, by go_num, rfl, HMI, own_keep HOP.out (fun q hq => HB5.out.block q (own_lt' HOP.out q hq)), own_keep HTX4.out (fun q hq => HB5.out.block q (own_lt' HTX4.out q hq)), HBE4.out.trans (HB5.out.mono HBE4.out.size), HFL4.out.below HB5.out⟩
                  case measure => have := HG2.out; omega
                · have HW : Hid (wholeM x = (⟨0, zeroR, 0, 0, 0⟩, 7)) := Lib.hid (by
                    rw [HWM.out, if_neg (by simp)]
                    match l, hl with
                    | [], _ => rfl
                    | [a], h => exact absurd rfl h
                    | a :: b :: t, _ => rfl)
                  obtain ⟨L, hL⟩ : ∃ L, l.length = L := ⟨_, rfl⟩
                  have hl2 : ((L : Int) == 1) = false := by rw [hL] at hl; simp; omega
                  have hl3 : ((L : Int) != 1) = true := by rw [hL] at hl; simp; omega
                  have HRD2 : Hid (Calls Tryd.prog 39 #[.string XS] wr fun e w' => (∃ A c, e = .returned (.tuple #[.slice A L c, .int .i64 0])) ∧ Below wr.heap.size wr w') := Lib.hid (HRD.out.mono fun e w' h => by
                    obtain ⟨A, c, he, _⟩ := h.1.1 rfl
                    exact ⟨⟨A, c, by rw [he, hL]⟩, h.2⟩)
                  have HMI : Hid (MidT RT acc (i + 1) 7 evs) := Lib.hid (by
                    have h := HX.out.2.2
                    rw [HW.out] at h
                    exact .inr ⟨by decide, by rw [if_pos (by decide)] at h; exact h.symm⟩)
                  clear HWM HRD hl hL HW
                  go_wp2_with fail
                  refine HRD2.out.mono ?_
                  rintro e w3 ⟨⟨A3, c3, rfl⟩, hb3⟩
                  have HB3 := Lib.hid hb3
                  clear hb3
                  go_wp2_with fail
                  go_roundg (m - (i + 1))
                  case rel => exact ⟨i + 1, 7, evs, ⟨rfl, hit, HG2.out.2.2⟩, by go_num, rfl, HMI, own_keep HOUT.out (fun q hq => HB3.out.block q (own_lt' HOUT.out q hq)), own_keep HTXT.out (fun q hq => HB3.out.block q (own_lt' HTXT.out q hq)), HWB.out.1.trans (HB3.out.mono HWB.out.1.size), HWB.out.2.below HB3.out⟩
                  case measure => have := HG2.out; omega
              · have HW : Hid (wholeM x = (⟨0, zeroR, 0, 0, 0⟩, E)) := Lib.hid (by rw [HWM.out, if_pos hE])
                have HRD2 : Hid (Calls Tryd.prog 39 #[.string XS] wr fun e w' => e = .returned (.tuple #[.slice none 0 0, .int .i64 E]) ∧ Below wr.heap.size wr w') := Lib.hid (HRD.out.mono fun e w' h => ⟨h.1.2 hE, h.2⟩)
                have HMI : Hid (MidT RT acc (i + 1) E evs) := Lib.hid (by
                  have h := HX.out.2.2
                  rw [HW.out] at h
                  exact .inr ⟨hE, by rw [if_pos hE] at h; exact h.symm⟩)
                have he2 : (E == 0) = false := by simpa using hE
                have he3 : (E != 0) = true := by simpa using hE
                clear HWM HRD hE HW
                go_wp2_with fail
                refine HRD2.out.mono ?_
                rintro e w3 ⟨rfl, hb3⟩
                have HB3 := Lib.hid hb3
                clear hb3
                go_wp2_with fail
                go_roundg (m - (i + 1))
                case rel => exact ⟨i + 1, E, evs, ⟨rfl, hit, HG2.out.2.2⟩, by go_num, rfl, HMI, own_keep HOUT.out (fun q hq => HB3.out.block q (own_lt' HOUT.out q hq)), own_keep HTXT.out (fun q hq => HB3.out.block q (own_lt' HTXT.out q hq)), HWB.out.1.trans (HB3.out.mono HWB.out.1.size), HWB.out.2.below HB3.out⟩
                case measure => have := HG2.out; omega
            · have hfr : RT = ([], f) := by
                rcases HMID.out with ⟨h, _⟩ | ⟨_, h⟩
                · exact absurd h hf
                · exact h
              have HFR := Lib.hid hfr
              have HF0 := Lib.hid hf
              have he2 : (f == 0) = false := by simpa using hf
              have he3 : (f != 0) = true := by simpa using hf
              clear hf hfr
              go_wp2_with fail
              go_ret2
              rw [HFR.out]
              exact ⟨fun h => absurd h HF0.out, fun _ => rfl, HWB.out.1⟩
          · obtain rfl : i = m := by have := HG2.out; omega
            by_cases hf : f = 0
            · subst hf
              have hRT : RT = (evs, 0) := by
                rcases HMID.out with ⟨_, h1, h2⟩ | ⟨h, _⟩
                · rw [List.drop_eq_nil_of_le (by have := HMM.out; omega), List.take_of_length_le (by have := HG2.out; omega)] at h1
                  exact h1.symm
                · exact absurd rfl h
              have HRR := Lib.hid hRT
              clear hRT
              go_wp2_with fail
              go_ret2
              rw [HRR.out]
              exact ⟨fun _ => ⟨A, cc, by rw [(evs_own HOUT.out).1.symm]; rfl, (evs_own HOUT.out).2⟩, fun h => absurd rfl h, HWB.out.1⟩
            · have hfr : RT = ([], f) := by
                rcases HMID.out with ⟨h, _⟩ | ⟨_, h⟩
                · exact absurd h hf
                · exact h
              have HFR := Lib.hid hfr
              have HF0 := Lib.hid hf
              have he2 : (f == 0) = false := by simpa using hf
              have he3 : (f != 0) = true := by simpa using hf
              clear hf hfr
              go_wp2_with fail
              go_ret2
              rw [HFR.out]
              exact ⟨fun h => absurd h HF0.out, fun _ => rfl, HWB.out.1⟩
      · have HD0 := Lib.hid hd0
        have HRTE : Hid (RT = ([], D)) := Lib.hid (by rw [HDD.out, if_pos hd0])
        have he2 : (D == 0) = false := by simpa using hd0
        have he3 : (D != 0) = true := by simpa using hd0
        clear hd0 HDD
        go_wp2_with fail
        refine HDN.out.mono ?_
        rintro e w5 ⟨rfl, rfl⟩
        go_wp2_with fail
        go_loopg [10, 11, 12, 13] 0 (fun g t10 t11 t12 t13 wq => t10 = .int .i64 D ∧ t11 = .int .i64 0 ∧ wr = wq)
        case atStart => exact ⟨rfl, rfl, rfl⟩
        case round =>
          obtain ⟨rfl, rfl, rfl⟩ := hrel
          by_cases hm0 : (0 : Int) < m
          · go_wp2_with fail
            go_ret2
            rw [HRTE.out]
            exact ⟨fun h => absurd h HD0.out, fun _ => rfl, HB1.out.trans (HR.out.kept.below (Nat.le_refl _) (Nat.le_of_lt HZ1.out))⟩
          · go_wp2_with fail
            go_ret2
            rw [HRTE.out]
            exact ⟨fun h => absurd h HD0.out, fun _ => rfl, HB1.out.trans (HR.out.kept.below (Nat.le_refl _) (Nat.le_of_lt HZ1.out))⟩
end Go.Proofs.YtjmfdacnaodfdaaDoor

namespace Go.Proofs.YtjmfdacnaodfdaaDoor
set_option linter.unusedVariables false
set_option linter.unusedSimpArgs false
open Go.RowKit Go.Proofs.YtjmfdacnaodfdaaDoorW.PrintWords

theorem part_errno (w : World) (cs : Array Value) (o : Nat) (v : Value) (h : cs[o]? = some v) : (part 25 cs o).run Tryd.prog w = .ok v w := by
  have ha : (isAgg 25).run Tryd.prog w = .ok false w := by kernel_rfl
  simp [part, Sem.run_bind, ha, h, Result.andThen]
set_option maxRecDepth 100000 in
theorem op_equal8 (w : World) (x : OpR) : (Op.equalIn 9999 30 (.agg x.cells) (.agg x.cells)).run Tryd.prog w = .ok (opEq x x) w := by
  refine eqA_of (d := 9998) Tryd.underlying30 (by kernel_rfl) ?_
  refine eqf_cons (by decide) (part_int w _ _ _ rfl) (part_int w _ _ _ rfl) (run_equalIn_int w 9997 _ _ _ _ _ Tryd.underlying3) ?_
  refine eqf_cons (by decide) (part_int w _ _ _ rfl) (part_int w _ _ _ rfl) (run_equalIn_int w 9997 _ _ _ _ _ Tryd.underlying3) ?_
  refine eqf_cons (by decide) (part_int w _ _ _ rfl) (part_int w _ _ _ rfl) (run_equalIn_int w 9997 _ _ _ _ _ Tryd.underlying3) ?_
  refine eqf_cons (by decide) (part_int w _ _ _ rfl) (part_int w _ _ _ rfl) (run_equalIn_int w 9997 _ _ _ _ _ Tryd.underlying3) ?_
  refine eqf_cons (by decide) (part_int w _ _ _ rfl) (part_int w _ _ _ rfl) (run_equalIn_int w 9997 _ _ _ _ _ Tryd.underlying3) ?_
  refine eqf_cons (by decide) (part_int w _ _ _ rfl) (part_int w _ _ _ rfl) (run_equalIn_int w 9997 _ _ _ _ _ Tryd.underlying3) ?_
  refine eqf_cons (by decide) (part_str w _ _ _ rfl) (part_str w _ _ _ rfl) (run_equalIn_string w 9997 _ _ _ Tryd.underlying9) ?_
  exact eqf_last (by decide) (part_str w _ _ _ rfl) (part_str w _ _ _ rfl) (run_equalIn_string w 9997 _ _ _ Tryd.underlying9)
set_option maxRecDepth 100000 in
theorem dot_equal8 (w : World) (a b : Int) : (Op.equalIn 9999 32 (.agg #[.int .i64 a, .int .i64 b]) (.agg #[.int .i64 a, .int .i64 b])).run Tryd.prog w = .ok (a == a && b == b) w := by
  refine eqA_of (d := 9998) Tryd.underlying32 (by kernel_rfl) ?_
  refine eqf_cons (by decide) (part_intD w _ _ _ rfl) (part_intD w _ _ _ rfl) (run_equalIn_int w 9997 _ _ _ _ _ Tryd.underlying3) ?_
  exact eqf_last (by decide) (part_intD w _ _ _ rfl) (part_intD w _ _ _ rfl) (run_equalIn_int w 9997 _ _ _ _ _ Tryd.underlying3)
theorem part_op (w : World) (x : EvR) : (part 30 x.cells 1).run Tryd.prog w = .ok (.agg x.op.cells) w := by
  have ha : (isAgg 30).run Tryd.prog w = .ok true w := by kernel_rfl
  have hs : (sizeOf 30).run Tryd.prog w = .ok 8 w := by kernel_rfl
  simp [part, Sem.run_bind, ha, hs, Result.andThen]
  rfl
theorem part_dot (w : World) (x : EvR) : (part 32 x.cells 10).run Tryd.prog w = .ok (.agg #[.int .i64 x.dp, .int .i64 x.dc]) w := by
  have ha : (isAgg 32).run Tryd.prog w = .ok true w := by kernel_rfl
  have hs : (sizeOf 32).run Tryd.prog w = .ok 2 w := by kernel_rfl
  simp [part, Sem.run_bind, ha, hs, Result.andThen]
  rfl
set_option maxRecDepth 100000 in
theorem event_equal (w : World) (x : EvR) : (Op.equalIn 10000 34 (.agg x.cells) (.agg x.cells)).run Tryd.prog w = .ok true w := by
  have h : (Op.equalIn 10000 34 (.agg x.cells) (.agg x.cells)).run Tryd.prog w = .ok (x.at_ == x.at_ && (opEq x.op x.op && (x.err == x.err && (x.dp == x.dp && x.dc == x.dc)))) w := by
    refine eqA_of (d := 9999) Tryd.underlying34 (by kernel_rfl) ?_
    refine eqf_cons (by decide) (part_int w _ _ _ rfl) (part_int w _ _ _ rfl) (run_equalIn_int w 9998 _ _ _ _ _ Tryd.underlying3) ?_
    refine eqf_cons (by decide) (part_op w x) (part_op w x) (op_equal8 w x.op) ?_
    refine eqf_cons (by decide) (part_errno w _ _ _ rfl) (part_errno w _ _ _ rfl) (run_equalIn_int w 9998 _ _ _ _ _ Tryd.underlying25) ?_
    exact eqf_last (by decide) (part_dot w x) (part_dot w x) (dot_equal8 w x.dp x.dc)
  rw [h]
  simp [opEq]

theorem below_drawn' {b : Nat} {W w : World} (h : Below b W w) (n : Nat) : Below b W (w.drewN n) := h.trans ⟨rfl, rfl, rfl, Nat.le_refl _, fun _ _ => rfl⟩
set_option maxHeartbeats 4000000 in
set_option maxRecDepth 100000 in
theorem same35_any (A B : Option Addr) (ca cb : Nat) (l : List EvR) (hl : l.length ≤ 1000000) (w : World) (ha : EvsAt w A l) (hb : EvsAt w B l) :
    Calls Tryd.prog 14 #[.slice A l.length ca, .slice B l.length cb] w fun e w' => e = .returned (.bool true) ∧ Below w.heap.size w w' := by
  have HA := Lib.hid ha
  have HB := Lib.hid hb
  obtain ⟨N, hN⟩ : ∃ N, l.length = N := ⟨_, rfl⟩
  have HNN := Lib.hid hN
  rw [hN] at hl ⊢
  clear ha hb hN
  go_enter Tryd.func14, Tryd.ntmps14
  go_wp2_with fail
  go_loopg [5] N (fun g t5 wr => ∃ k : Nat, Hid (g = N - k ∧ k ≤ N) ∧ t5 = .int .i64 k ∧ Hid (Below w.heap.size w wr))
  case atStart => exact ⟨0, ⟨rfl, Nat.zero_le _⟩, rfl, Below.refl _ _⟩
  case round =>
    obtain ⟨k, HN, rfl, HW⟩ := hrel
    have hk0 : (0 : Int) ≤ k := by omega
    by_cases hlt : k < N
    · have hlt' : (k : Int) < N := by omega
      obtain ⟨a, rfl, hca⟩ := HA.out k (by rw [HNN.out]; exact hlt)
      obtain ⟨b, rfl, hcb⟩ := HB.out k (by rw [HNN.out]; exact hlt)
      obtain ⟨d0, d1, d2, d3, d4, d5, d6, d7, d8, d9, d10, d11⟩ := hca.below HW.out
      obtain ⟨e0, e1, e2, e3, e4, e5, e6, e7, e8, e9, e10, e11⟩ := hcb.below HW.out
      obtain ⟨x, hx⟩ : ∃ x, l[k]'(by rw [HNN.out]; exact hlt) = x := ⟨_, rfl⟩
      rw [hx] at d0 d1 d2 d3 d4 d5 d6 d7 d8 d9 d10 d11 e0 e1 e2 e3 e4 e5 e6 e7 e8 e9 e10 e11
      have heq : ∀ w', (Op.equalIn 10000 34 (.agg x.cells) (.agg x.cells)).run Tryd.prog w' = .ok true w' := fun w' => event_equal w' x
      simp only [EvR.cells] at heq
      clear hx hca hcb
      go_wp2_with fail
      go_quiet (fail)
      go_wp2_with fail
      go_roundg (N - (k + 1))
      case rel => exact ⟨k + 1, ⟨rfl, hlt⟩, by go_num, below_drawn' HW.out _⟩
      case measure => have := HN.out; omega
    · have hlt' : ¬ (k : Int) < N := by omega
      go_wp2_with fail
      go_ret
      exact ⟨rfl, HW.out⟩

/-- Events that are not too great. -/
def Small40 (l : List EvR) : Prop := l.length ≤ 421 ∧ ∀ x ∈ l, x.op.u.size ≤ 9000 ∧ x.op.v.size ≤ 9000
def Great40 (l : List EvR) (w : World) (e : Ending) (w' : World) : Prop := ∃ b : Bool, e = .returned (.bool b) ∧ (b = false → Small40 l) ∧ Below w.heap.size w w'
set_option maxHeartbeats 4000000 in
set_option maxRecDepth 100000 in
theorem great40_any (A : Option Addr) (c : Nat) (l : List EvR) (hz : ∀ x ∈ l, x.op.u.size ≤ 1000000000000000 ∧ x.op.v.size ≤ 1000000000000000) (hl : l.length ≤ 1000000000000000) (w : World) (ha : EvsAt w A l) :
    Calls Tryd.prog 6 #[.slice A l.length c] w (Great40 l w) := by
  have HA := Lib.hid ha
  have HZ := Lib.hid hz
  obtain ⟨N, hN⟩ : ∃ N, l.length = N := ⟨_, rfl⟩
  have HNN := Lib.hid hN
  rw [hN] at hl ⊢
  clear ha hN hz
  go_enter Tryd.func6, Tryd.ntmps6
  go_wp2_with fail
  go_loopg [3, 4] N (fun g t3 t4 wr => ∃ k S : Nat, Hid (g = N - k ∧ k ≤ N) ∧ t4 = .int .i64 k ∧ t3 = .int .i64 S ∧ Hid (k ≤ 421 ∧ S ≤ 9000 ∧ ∀ x ∈ l.take k, x.op.u.size ≤ 9000 ∧ x.op.v.size ≤ 9000) ∧ Hid (Below w.heap.size w wr))
  case atStart => exact ⟨0, 0, ⟨rfl, Nat.zero_le _⟩, rfl, rfl, ⟨by omega, by omega, fun x hx => by simp at hx⟩, Below.refl _ _⟩
  case round =>
    obtain ⟨k, S, HN, rfl, rfl, HK, HW⟩ := hrel
    have hk0 : (0 : Int) ≤ k := by omega
    by_cases hlt : k < N
    · have hlt' : (k : Int) < N := by omega
      have hkl : k < l.length := by rw [HNN.out]; exact hlt
      obtain ⟨a, rfl, hca⟩ := HA.out k hkl
      obtain ⟨d0, d1, d2, d3, d4, d5, d6, d7, d8, d9, d10, d11⟩ := hca.below HW.out
      obtain ⟨x, hx⟩ : ∃ x, l[k]'hkl = x := ⟨_, rfl⟩
      rw [hx] at d7 d8
      have hzx := HZ.out x (by rw [← hx]; exact List.getElem_mem _)
      have HTK : Hid (l.take (k + 1) = l.take k ++ [x]) := Lib.hid (by rw [List.take_succ_eq_append_getElem hkl, hx])
      obtain ⟨at_, ⟨kk, p, t, n, aa, m, u, v⟩, er, dp, dc⟩ := x
      simp only at d7 d8 hzx
      have hS : S ≤ 9000 := HK.out.2.1
      have hk421 : k ≤ 421 := HK.out.1
      clear d0 d1 d2 d3 d4 d5 d6 d9 d10 d11 hx hca
      by_cases hk4 : (420 : Int) < k
      · go_wp2_with fail
        go_quiet (fail)
        go_wp2_with fail
        go_ret
        exact ⟨true, rfl, fun h => by simp at h, below_drawn' HW.out _⟩
      · by_cases hbig : (9000 : Int) < (S : Int) + ((u.size : Int) + v.size)
        · go_wp2_with fail
          go_quiet (fail)
          go_wp2_with fail
          go_ret
          exact ⟨true, rfl, fun h => by simp at h, below_drawn' HW.out _⟩
        · have HK2 : Hid (k + 1 ≤ 421 ∧ S + (u.size + v.size) ≤ 9000 ∧ ∀ x ∈ l.take (k + 1), x.op.u.size ≤ 9000 ∧ x.op.v.size ≤ 9000) := Lib.hid ⟨by omega, by omega, fun x hx => by
            rw [HTK.out] at hx
            rcases List.mem_append.1 hx with h | h
            · exact HK.out.2.2 x h
            · obtain rfl : x = ⟨at_, ⟨kk, p, t, n, aa, m, u, v⟩, er, dp, dc⟩ := by simpa using h
              simp only
              omega⟩
          go_wp2_with fail
          go_quiet (fail)
          go_wp2_with fail
          go_roundg (N - (k + 1))
          case rel => exact ⟨k + 1, S + (u.size + v.size), ⟨rfl, hlt⟩, by go_num, by go_num, HK2, below_drawn' HW.out _⟩
          case measure => have := HN.out; omega
    · have hlt' : ¬ (k : Int) < N := by omega
      go_wp2_with fail
      go_ret
      exact ⟨false, rfl, fun _ => ⟨by rw [HNN.out]; have := HK.out.1; have := HN.out; omega, by
        have h := HK.out.2.2
        rw [List.take_of_length_le (by rw [HNN.out]; omega)] at h
        exact h⟩, HW.out⟩
end Go.Proofs.YtjmfdacnaodfdaaDoor

namespace Go.Proofs.YtjmfdacnaodfdaaDoor
set_option linter.unusedVariables false
set_option linter.unusedSimpArgs false
open Go.RowKit

def litT : List UInt8 := [1, 0, 2, 3, 1, 10, 2, 0, 0]
theorem lit_facts : (readT litT).2 = 0 ∧ (readT litT).1.map (fun x => (x.err, x.op.k)) = [(2, 10)] := by decide +kernel
theorem nil_facts : traceB [] = ([0], 0) := by decide +kernel
theorem evs_nil (w : World) : EvsAt w none [] := fun i hi => by simp at hi
set_option maxHeartbeats 4000000 in
set_option maxRecDepth 100000 in
theorem awake40_any (w : World) (hd : Flds w) (h0 : 0 < w.heap.size) :
    Calls Tryd.prog 7 #[] w fun e w' => e = .returned (.bool true) ∧ Below w.heap.size w w' := by
  have HB := Lib.hid (tbytes_any none 0 [] (by simp) w hd (evs_nil w))
  have HBB : Hid (Calls Tryd.prog 8 #[.slice none 0 0] w fun e w' => e = .returned (.tuple #[.string ⟨#[0]⟩, .int .i64 0]) ∧ Below w.heap.size w w') := Lib.hid (HB.out.mono fun e w' h => ⟨by rw [h.1, nil_facts], h.2⟩)
  obtain ⟨x, hx, he, hk⟩ : ∃ x, readT litT = ([x], 0) ∧ x.err = 2 ∧ x.op.k = 10 := by
    obtain ⟨h1, h2⟩ := lit_facts
    obtain ⟨l, f, hr⟩ : ∃ l f, readT litT = (l, f) := ⟨_, _, rfl⟩
    rw [hr] at h1 h2 ⊢
    simp only at h1 h2
    subst h1
    cases l with
    | nil => simp at h2
    | cons x t =>
      cases t with
      | nil =>
        simp only [List.map_cons, List.map_nil, List.cons.injEq, Prod.mk.injEq, and_true] at h2
        exact ⟨x, rfl, h2.1, h2.2⟩
      | cons y u => simp at h2
  have HR : Hid (∀ w', Below w.heap.size w w' → Calls Tryd.prog 12 #[.string ⟨#[1, 0, 2, 3, 1, 10, 2, 0, 0]⟩] w' fun e w'' => (∃ A c, e = .returned (.tuple #[.slice A 1 c, .int .i64 0]) ∧ EvsAt w'' A [x]) ∧ Below w.heap.size w w'') := Lib.hid fun w' hb => by
    have h := tread_any litT (by decide) w' (hd.below hb) (by have := hb.size; omega)
    rw [hx] at h
    exact h.mono fun e w'' h => ⟨h.1 rfl, hb.trans (h.2.2.mono hb.size)⟩
  clear hx hd HB
  go_enter Tryd.func7, Tryd.ntmps7
  go_wp2_with fail
  refine HBB.out.mono ?_
  rintro e w1 ⟨rfl, hb1⟩
  have HB1 := Lib.hid hb1
  clear hb1
  go_wp2_with fail
  refine (HR.out w1 HB1.out).mono ?_
  rintro e w2 ⟨⟨A, c, rfl, hA⟩, hb2⟩
  have HB2 := Lib.hid hb2
  obtain ⟨a, rfl, hc⟩ := hA 0 (by simp)
  obtain ⟨d0, d1, d2, d3, d4, d5, d6, d7, d8, d9, d10, d11⟩ := hc
  simp only [List.getElem_cons_zero, Nat.zero_mul, addr_zero] at d0 d1 d2 d3 d4 d5 d6 d7 d8 d9 d10 d11
  rw [hk] at d1
  rw [he] at d9
  clear hb2 hA d0 d2 d3 d4 d5 d6 d7 d8 d10 d11 he hk
  go_wp2_with fail
  go_ret
  exact ⟨rfl, HB2.out⟩
end Go.Proofs.YtjmfdacnaodfdaaDoor

namespace Go.Proofs.YtjmfdacnaodfdaaDoor
set_option linter.unusedVariables false
set_option linter.unusedSimpArgs false
open Go.Joins Go.ChangeShapes Go.WideShapes Go.RowKit Go.Deep
section
variable {H : Type} {enc : TypeId × Value → H} {w : World} {base : Nat} {spare : Nat → Bool} {held : Bool}
theorem cInt : Tryd.prog.cellsOf 3 = 1 := by kernel_rfl
theorem cStr : Tryd.prog.cellsOf 9 = 1 := by kernel_rfl
theorem cErr : Tryd.prog.cellsOf 25 = 1 := by kernel_rfl
theorem cOp : Tryd.prog.cellsOf 30 = 8 := by kernel_rfl
theorem cDot : Tryd.prog.cellsOf 32 = 2 := by kernel_rfl
theorem cEvent : Tryd.prog.cellsOf 34 = 12 := by kernel_rfl
theorem bEvent : Tryd.prog.bytesOf 34 = 112 := by kernel_rfl
/-- No part of a datum is greater than what may be read. -/
def Fit {H : Type} (t : TypeId) (d : DataW H) : Prop := ∀ n ∈ d.weights Tryd.prog t, n ≤ reachBytes
theorem weights_mem_all {H : Type} {P : Program} {e : TypeId} : ∀ {ds : List (DataW H)} {d : DataW H}, d ∈ ds → ∀ {n : Nat}, n ∈ d.weights P e → n ∈ DataW.weightsAll P e ds
  | d0 :: ds, d, hd, n, hn => by
    simp only [DataW.weightsAll, List.mem_append]
    rcases List.mem_cons.1 hd with rfl | h
    · exact .inl hn
    · exact .inr (weights_mem_all h hn)
theorem fit_struct {H : Type} {t : TypeId} {fs : Array Field} {parts : List (DataW H)} (ht : Tryd.prog.underlying t = some (.struct fs)) (h : Fit t (.agg parts : DataW H)) (j : Nat) (f : Field) (d : DataW H) (hf : fs[j]? = some f) (hd : parts[j]? = some d) : Fit f.type d := fun n hn => h n (by
  simp only [DataW.weights, ht]
  exact DataW.weights_mem_each (j := j) (t := f.type) (d := d) (by simp [hf]) hd n hn)
theorem fit_elem {H : Type} {t e : TypeId} {el sp : List (DataW H)} (ht : Tryd.prog.underlying t = some (.slice e)) (h : Fit t (.slice el sp : DataW H)) {d : DataW H} (hd : d ∈ el) : Fit e d := fun n hn => h n (by
  simp only [DataW.weights, ht]
  exact List.mem_cons_of_mem _ (List.mem_append_left _ (weights_mem_all hd hn)))
theorem fit_len {H : Type} {t e : TypeId} {el sp : List (DataW H)} (ht : Tryd.prog.underlying t = some (.slice e)) (h : Fit t (.slice el sp : DataW H)) : el.length * Tryd.prog.bytesOf e ≤ reachBytes := by
  have h1 := h ((el.length + sp.length) * Tryd.prog.bytesOf e) (by simp only [DataW.weights, ht]; exact List.mem_cons_self ..)
  exact Nat.le_trans (Nat.mul_le_mul_right _ (Nat.le_add_right _ _)) h1
theorem fit_arg {H : Type} {ts : List TypeId} {ds : List (DataW H)} (h : (DataW.weightsEach Tryd.prog ts ds).all (· ≤ reachBytes) = true) (j : Nat) {t : TypeId} {d : DataW H} (ht : ts[j]? = some t) (hd : ds[j]? = some d) : Fit t d := fun n hn => by
  simpa using List.all_eq_true.1 h n (DataW.weights_mem_each ht hd n hn)
theorem fit_str {H : Type} {t : TypeId} {l : List UInt8} (h : Fit t (.lit (.string l) : DataW H)) : l.length ≤ reachBytes := h _ (by simp [DataW.weights])

theorem add_off (a : Addr) (j : Nat) (hj : 0 < j) : a.add j = ⟨a.block, a.off + j, none⟩ := by
  unfold Addr.add
  simp [Nat.ne_of_gt hj]
theorem list_of {α : Type} (R : Nat → α → Prop) (n : Nat) (h : ∀ i, i < n → ∃ x, R i x) : ∃ l : List α, l.length = n ∧ ∀ j (hj : j < l.length), R j l[j] := by
  induction n with
  | zero => exact ⟨[], rfl, fun j hj => by simp at hj⟩
  | succ n ih =>
    obtain ⟨l, hl, hr⟩ := ih (fun i hi => h i (by omega))
    obtain ⟨x, hx⟩ := h n (by omega)
    refine ⟨l ++ [x], by simp [hl], fun j hj => ?_⟩
    by_cases e : j < l.length
    · rw [List.getElem_append_left e]
      exact hr j e
    · have e' : j = l.length := by simp at hj; omega
      subst e'
      simp
      rw [hl]
      exact hx

set_option maxRecDepth 100000 in
theorem open_opz {n : Nat} {c0 c1 c2 c3 c4 c5 c6 c7 : Value} {y : DataW H × List MemPlace} (h : DataW.trod enc Tryd.prog w base spare held n 30 [c0, c1, c2, c3, c4, c5, c6, c7] = some y) (hw : Fit 30 y.1) :
    ∃ x : OpR, [c0, c1, c2, c3, c4, c5, c6, c7] = x.cells.toList ∧ x.u.size ≤ 1000000000000000 ∧ x.v.size ≤ 1000000000000000 := by
  obtain ⟨xs, m, _, hx, _, hlen, hg⟩ := DataW.trod_struct Tryd.underlying30 h
  match xs, hlen with
  | [y0, y1, y2, y3, y4, y5, y6, y7], _ =>
    have g0 : DataW.trod enc Tryd.prog w base spare held m 3 (List.take (Tryd.prog.cellsOf 3) (List.drop 0 [c0, c1, c2, c3, c4, c5, c6, c7])) = some y0 := hg 0 _ rfl
    rw [cInt] at g0
    change DataW.trod enc Tryd.prog w base spare held m 3 [c0] = some y0 at g0
    have g1 : DataW.trod enc Tryd.prog w base spare held m 3 (List.take (Tryd.prog.cellsOf 3) (List.drop 1 [c0, c1, c2, c3, c4, c5, c6, c7])) = some y1 := hg 1 _ rfl
    rw [cInt] at g1
    change DataW.trod enc Tryd.prog w base spare held m 3 [c1] = some y1 at g1
    have g2 : DataW.trod enc Tryd.prog w base spare held m 3 (List.take (Tryd.prog.cellsOf 3) (List.drop 2 [c0, c1, c2, c3, c4, c5, c6, c7])) = some y2 := hg 2 _ rfl
    rw [cInt] at g2
    change DataW.trod enc Tryd.prog w base spare held m 3 [c2] = some y2 at g2
    have g3 : DataW.trod enc Tryd.prog w base spare held m 3 (List.take (Tryd.prog.cellsOf 3) (List.drop 3 [c0, c1, c2, c3, c4, c5, c6, c7])) = some y3 := hg 3 _ rfl
    rw [cInt] at g3
    change DataW.trod enc Tryd.prog w base spare held m 3 [c3] = some y3 at g3
    have g4 : DataW.trod enc Tryd.prog w base spare held m 3 (List.take (Tryd.prog.cellsOf 3) (List.drop 4 [c0, c1, c2, c3, c4, c5, c6, c7])) = some y4 := hg 4 _ rfl
    rw [cInt] at g4
    change DataW.trod enc Tryd.prog w base spare held m 3 [c4] = some y4 at g4
    have g5 : DataW.trod enc Tryd.prog w base spare held m 3 (List.take (Tryd.prog.cellsOf 3) (List.drop 5 [c0, c1, c2, c3, c4, c5, c6, c7])) = some y5 := hg 5 _ rfl
    rw [cInt] at g5
    change DataW.trod enc Tryd.prog w base spare held m 3 [c5] = some y5 at g5
    have g6 : DataW.trod enc Tryd.prog w base spare held m 9 (List.take (Tryd.prog.cellsOf 9) (List.drop 6 [c0, c1, c2, c3, c4, c5, c6, c7])) = some y6 := hg 6 _ rfl
    rw [cStr] at g6
    change DataW.trod enc Tryd.prog w base spare held m 9 [c6] = some y6 at g6
    have g7 : DataW.trod enc Tryd.prog w base spare held m 9 (List.take (Tryd.prog.cellsOf 9) (List.drop 7 [c0, c1, c2, c3, c4, c5, c6, c7])) = some y7 := hg 7 _ rfl
    rw [cStr] at g7
    change DataW.trod enc Tryd.prog w base spare held m 9 [c7] = some y7 at g7
    have hy : y.1 = .agg [y0.1, y1.1, y2.1, y3.1, y4.1, y5.1, y6.1, y7.1] := by rw [hx]; rfl
    rw [hy] at hw
    have w0 := fit_struct Tryd.underlying30 hw 0 _ y0.1 rfl rfl
    have w1 := fit_struct Tryd.underlying30 hw 1 _ y1.1 rfl rfl
    have w2 := fit_struct Tryd.underlying30 hw 2 _ y2.1 rfl rfl
    have w3 := fit_struct Tryd.underlying30 hw 3 _ y3.1 rfl rfl
    have w4 := fit_struct Tryd.underlying30 hw 4 _ y4.1 rfl rfl
    have w5 := fit_struct Tryd.underlying30 hw 5 _ y5.1 rfl rfl
    have w6 := fit_struct Tryd.underlying30 hw 6 _ y6.1 rfl rfl
    have w7 := fit_struct Tryd.underlying30 hw 7 _ y7.1 rfl rfl
    obtain ⟨a0, h0, _, _⟩ := DataW.trod_int Tryd.underlying3 g0
    obtain ⟨a1, h1, _, _⟩ := DataW.trod_int Tryd.underlying3 g1
    obtain ⟨a2, h2, _, _⟩ := DataW.trod_int Tryd.underlying3 g2
    obtain ⟨a3, h3, _, _⟩ := DataW.trod_int Tryd.underlying3 g3
    obtain ⟨a4, h4, _, _⟩ := DataW.trod_int Tryd.underlying3 g4
    obtain ⟨a5, h5, _, _⟩ := DataW.trod_int Tryd.underlying3 g5
    obtain ⟨s6, h6, k6, _⟩ := DataW.trod_string Tryd.underlying9 g6
    obtain ⟨s7, h7, k7, _⟩ := DataW.trod_string Tryd.underlying9 g7
    have z6 : s6.size ≤ 1000000000000000 := by
      rw [k6] at w6
      have := fit_str w6
      have h2 : s6.data.toList.length = s6.size := by simp
      unfold reachBytes at this
      omega
    have z7 : s7.size ≤ 1000000000000000 := by
      rw [k7] at w7
      have := fit_str w7
      have h2 : s7.data.toList.length = s7.size := by simp
      unfold reachBytes at this
      omega
    simp at h0 h1 h2 h3 h4 h5 h6 h7
    subst h0 h1 h2 h3 h4 h5 h6 h7
    exact ⟨⟨a0, a1, a2, a3, a4, a5, s6, s7⟩, rfl, z6, z7⟩
set_option maxRecDepth 100000 in
theorem open_dotz {n : Nat} {c0 c1 : Value} {y : DataW H × List MemPlace} (h : DataW.trod enc Tryd.prog w base spare held n 32 [c0, c1] = some y) (hw : Fit 32 y.1) :
    ∃ p q : Int, c0 = .int .i64 p ∧ c1 = .int .i64 q := by
  obtain ⟨xs, m, _, hx, _, hlen, hg⟩ := DataW.trod_struct Tryd.underlying32 h
  match xs, hlen with
  | [y0, y1], _ =>
    have g0 : DataW.trod enc Tryd.prog w base spare held m 3 (List.take (Tryd.prog.cellsOf 3) (List.drop 0 [c0, c1])) = some y0 := hg 0 _ rfl
    rw [cInt] at g0
    change DataW.trod enc Tryd.prog w base spare held m 3 [c0] = some y0 at g0
    have g1 : DataW.trod enc Tryd.prog w base spare held m 3 (List.take (Tryd.prog.cellsOf 3) (List.drop 1 [c0, c1])) = some y1 := hg 1 _ rfl
    rw [cInt] at g1
    change DataW.trod enc Tryd.prog w base spare held m 3 [c1] = some y1 at g1
    have hy : y.1 = .agg [y0.1, y1.1] := by rw [hx]; rfl
    rw [hy] at hw
    have w0 := fit_struct Tryd.underlying32 hw 0 _ y0.1 rfl rfl
    have w1 := fit_struct Tryd.underlying32 hw 1 _ y1.1 rfl rfl
    obtain ⟨a0, h0, _, _⟩ := DataW.trod_int Tryd.underlying3 g0
    obtain ⟨a1, h1, _, _⟩ := DataW.trod_int Tryd.underlying3 g1
    simp at h0 h1
    exact ⟨a0, a1, h0, h1⟩
set_option maxRecDepth 100000 in
theorem open_eventz {n : Nat} {c0 c1 c2 c3 c4 c5 c6 c7 c8 c9 c10 c11 : Value} {y : DataW H × List MemPlace} (h : DataW.trod enc Tryd.prog w base spare held n 34 [c0, c1, c2, c3, c4, c5, c6, c7, c8, c9, c10, c11] = some y) (hw : Fit 34 y.1) :
    ∃ x : EvR, [c0, c1, c2, c3, c4, c5, c6, c7, c8, c9, c10, c11] = x.cells.toList ∧ x.op.u.size ≤ 1000000000000000 ∧ x.op.v.size ≤ 1000000000000000 := by
  obtain ⟨xs, m, _, hx, _, hlen, hg⟩ := DataW.trod_struct Tryd.underlying34 h
  match xs, hlen with
  | [y0, y1, y2, y3], _ =>
    have g0 : DataW.trod enc Tryd.prog w base spare held m 3 (List.take (Tryd.prog.cellsOf 3) (List.drop 0 [c0, c1, c2, c3, c4, c5, c6, c7, c8, c9, c10, c11])) = some y0 := hg 0 _ rfl
    rw [cInt] at g0
    change DataW.trod enc Tryd.prog w base spare held m 3 [c0] = some y0 at g0
    have g1 : DataW.trod enc Tryd.prog w base spare held m 30 (List.take (Tryd.prog.cellsOf 30) (List.drop 1 [c0, c1, c2, c3, c4, c5, c6, c7, c8, c9, c10, c11])) = some y1 := hg 1 _ rfl
    rw [cOp] at g1
    change DataW.trod enc Tryd.prog w base spare held m 30 [c1, c2, c3, c4, c5, c6, c7, c8] = some y1 at g1
    have g2 : DataW.trod enc Tryd.prog w base spare held m 25 (List.take (Tryd.prog.cellsOf 25) (List.drop 9 [c0, c1, c2, c3, c4, c5, c6, c7, c8, c9, c10, c11])) = some y2 := hg 2 _ rfl
    rw [cErr] at g2
    change DataW.trod enc Tryd.prog w base spare held m 25 [c9] = some y2 at g2
    have g3 : DataW.trod enc Tryd.prog w base spare held m 32 (List.take (Tryd.prog.cellsOf 32) (List.drop 10 [c0, c1, c2, c3, c4, c5, c6, c7, c8, c9, c10, c11])) = some y3 := hg 3 _ rfl
    rw [cDot] at g3
    change DataW.trod enc Tryd.prog w base spare held m 32 [c10, c11] = some y3 at g3
    have hy : y.1 = .agg [y0.1, y1.1, y2.1, y3.1] := by rw [hx]; rfl
    rw [hy] at hw
    have w0 := fit_struct Tryd.underlying34 hw 0 _ y0.1 rfl rfl
    have w1 := fit_struct Tryd.underlying34 hw 1 _ y1.1 rfl rfl
    have w2 := fit_struct Tryd.underlying34 hw 2 _ y2.1 rfl rfl
    have w3 := fit_struct Tryd.underlying34 hw 3 _ y3.1 rfl rfl
    obtain ⟨a0, h0, _, _⟩ := DataW.trod_int Tryd.underlying3 g0
    obtain ⟨x, hxo, z1, z2⟩ := open_opz g1 w1
    obtain ⟨a9, h9, _, _⟩ := DataW.trod_int Tryd.underlying25 g2
    obtain ⟨p, q, rfl, rfl⟩ := open_dotz g3 w3
    simp at h0 h9
    subst h0 h9
    simp only [OpR.cells, List.cons.injEq, and_true] at hxo
    obtain ⟨rfl, rfl, rfl, rfl, rfl, rfl, rfl, rfl⟩ := hxo
    exact ⟨⟨a0, x, a9, p, q⟩, rfl, z1, z2⟩
set_option maxRecDepth 100000 in
theorem arg_events {r : Reach} {b0 : Nat} {v : Value} {d : DataW H} {p : List MemPlace} (hv : Value.okWide Tryd.prog w r b0 22 v) (h : DataW.Trod enc Tryd.prog w base spare held 22 v d p) (hw : Fit 22 d) :
    ∃ (A : Option Addr) (c : Nat) (l : List EvR), v = .slice A l.length c ∧ EvsAt w A l ∧ (∀ x ∈ l, x.op.u.size ≤ 1000000000000000 ∧ x.op.v.size ≤ 1000000000000000) ∧ l.length ≤ 1000000000000000 := by
  obtain ⟨A0, n0, c0, rfl⟩ := okWide_slice Tryd.underlying22 hv
  obtain ⟨fuel, hf⟩ := h
  rcases open_slice Tryd.underlying22 hf with ⟨hc, _⟩ | ⟨a, len, cap, m, n, D, Pl, hc, _, hlc, hcm, hm, hx, hi⟩
  · have hc : Value.slice A0 n0 c0 = .slice none 0 0 := by simpa [Value.cells] using hc
    exact ⟨none, 0, [], hc, fun j hj => by simp at hj, fun x hx => by simp at hx, by simp⟩
  · have hc : Value.slice A0 n0 c0 = .slice (some a) len cap := by simpa [Value.cells] using hc
    obtain rfl : d = .slice ((List.range len).map D) ((List.range (m - len)).map fun j => D (len + j)) := (Prod.mk.inj hx).1
    have hln := fit_len Tryd.underlying22 hw
    rw [bEvent, List.length_map, List.length_range] at hln
    unfold reachBytes at hln
    have key : ∀ i, i < len → ∃ x : EvR, Cell12 w (a.add (i * 12)) x ∧ (x.op.u.size ≤ 1000000000000000 ∧ x.op.v.size ≤ 1000000000000000) := by
      intro i hin
      obtain ⟨cs, hcs, ht⟩ := hi i (by rw [hm]; split <;> omega)
      rw [cEvent] at hcs
      obtain ⟨_, hl, hat⟩ := World.cells?_some hcs
      have hwi := fit_elem Tryd.underlying22 hw (d := D i) (List.mem_map.2 ⟨i, List.mem_range.2 hin, rfl⟩)
      match cs, hl with
      | [c0, c1, c2, c3, c4, c5, c6, c7, c8, c9, c10, c11], _ =>
        obtain ⟨x, hxc, z1, z2⟩ := open_eventz ht hwi
        simp only [EvR.cells, List.cons.injEq, and_true] at hxc
        obtain ⟨rfl, rfl, rfl, rfl, rfl, rfl, rfl, rfl, rfl, rfl, rfl, rfl⟩ := hxc
        have k0 := hat 0 (by omega)
        have k1 := hat 1 (by omega)
        have k2 := hat 2 (by omega)
        have k3 := hat 3 (by omega)
        have k4 := hat 4 (by omega)
        have k5 := hat 5 (by omega)
        have k6 := hat 6 (by omega)
        have k7 := hat 7 (by omega)
        have k8 := hat 8 (by omega)
        have k9 := hat 9 (by omega)
        have k10 := hat 10 (by omega)
        have k11 := hat 11 (by omega)
        rw [Addr.add_zero'] at k0
        rw [add_off _ 1 (by omega)] at k1
        rw [add_off _ 2 (by omega)] at k2
        rw [add_off _ 3 (by omega)] at k3
        rw [add_off _ 4 (by omega)] at k4
        rw [add_off _ 5 (by omega)] at k5
        rw [add_off _ 6 (by omega)] at k6
        rw [add_off _ 7 (by omega)] at k7
        rw [add_off _ 8 (by omega)] at k8
        rw [add_off _ 9 (by omega)] at k9
        rw [add_off _ 10 (by omega)] at k10
        rw [add_off _ 11 (by omega)] at k11
        exact ⟨x, ⟨k0, k1, k2, k3, k4, k5, k6, k7, k8, k9, k10, k11⟩, z1, z2⟩
    obtain ⟨l, hl, hat⟩ := list_of (fun i (x : EvR) => Cell12 w (a.add (i * 12)) x ∧ (x.op.u.size ≤ 1000000000000000 ∧ x.op.v.size ≤ 1000000000000000)) len key
    refine ⟨some a, cap, l, by rw [hc, hl], fun j hj => ⟨a, rfl, (hat j hj).1⟩, fun x hx => ?_, by rw [hl]; omega⟩
    · obtain ⟨j, hj, rfl⟩ := List.getElem_of_mem hx
      exact (hat j hj).2
end
theorem Flds.pos {w : World} (h : Flds w) : 0 < w.heap.size := by
  have h0 := h.cell 0 (by omega)
  rcases Nat.eq_zero_or_pos w.heap.size with h1 | h1
  · simp [World.cell?, Array.getElem?_eq_none (Nat.le_of_eq h1)] at h0
  · exact h1
end Go.Proofs.YtjmfdacnaodfdaaDoor
