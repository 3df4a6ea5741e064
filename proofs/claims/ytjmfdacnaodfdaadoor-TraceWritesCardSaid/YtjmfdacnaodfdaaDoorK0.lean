/- Numbers as bytes, in plain lists. Numbers taken off bytes, in plain lists. A range over a function whose iterator writes memory of its own between two rounds: both sides say which blocks they lean on. Rows of bytes, and the strings that are made of them. The ground of the texts on traces: bytes, and the table of fields. package count: a number's bytes. package count and the document: the number that bytes begin with. package count: the number that bytes begin with. package count: Take. The document's writer. The two readers: what is left, and what is wrong. The document's reader: a number. The document's reader: a text. -/
import Derived.Test.YtjmfdacnaodfdaaDoorProg
import Derived.WalkKit
import Derived.RangeFuncNested
import Derived.RangeFuncBound
import Derived.RangeFuncCalls
import Derived.RangeFuncLeaves
import Derived.RangeFuncBox
import Derived.Below
import Derived.Deep.Draws
import Derived.Deep.AppendLies
import Derived.OwnWalkIn
import Derived.Lib.ConvBytes
import Derived.Deep.RegionLaw
import Derived.RangeFuncRecord
import Derived.OwnWalk
import Derived.Lib.Hide
import Derived.StillTailTactics
import Derived.IntWalk
import Derived.Deep.LoopGhost
import Derived.WalkSpells
import Derived.Deep.Cut
import Derived.Deep.OwnRows
import Derived.Deep.RegionHeld3
import Derived.Lib.LaidTab
import Derived.KernelRfl
import Derived.Shelf.Abstract
import Derived.Shelf.RegionOpen
import Derived.TacticsInMore
import Derived.LoopNIn
import Derived.LoopIn
import Derived.Maps.AppendAt
import Derived.Lib.OwnBridge
import Derived.Deep.QuietTactic
import Derived.BigQuiet
import Derived.Lib.SmallJoins
import Derived.Laws.Bits64
import Derived.Lib.Builder
import Derived.Laws.Rows
namespace Go.Proofs.YtjmfdacnaodfdaaDoor
set_option linter.unusedVariables false
set_option linter.unusedSimpArgs false

/-- A number's groups, the lowest first. -/
def groupsF : Nat → Nat → List UInt8
  | 0, n => [UInt8.ofNat n]
  | f + 1, n => if n < 128 then [UInt8.ofNat n] else UInt8.ofNat (n % 128 + 128) :: groupsF f (n / 128)
def groupsL (n : Nat) : List UInt8 := groupsF n n
theorem groupsF_fuel : ∀ (f g n : Nat), n ≤ f → n ≤ g → groupsF f n = groupsF g n
  | 0, 0, n, _, _ => rfl
  | 0, g + 1, n, h, _ => by
    obtain rfl : n = 0 := by omega
    rfl
  | f + 1, 0, n, _, h => by
    obtain rfl : n = 0 := by omega
    rfl
  | f + 1, g + 1, n, hf, hg => by
    unfold groupsF
    by_cases h : n < 128
    · rw [if_pos h, if_pos h]
    · rw [if_neg h, if_neg h, groupsF_fuel f g (n / 128) (by omega) (by omega)]
theorem groupsL_small (n : Nat) (h : n < 128) : groupsL n = [UInt8.ofNat n] := by
  unfold groupsL
  cases n with
  | zero => rfl
  | succ n => unfold groupsF; rw [if_pos h]
theorem groupsL_big (n : Nat) (h : ¬ n < 128) : groupsL n = UInt8.ofNat (n % 128 + 128) :: groupsL (n / 128) := by
  unfold groupsL
  cases n with
  | zero => omega
  | succ n =>
    conv => lhs; unfold groupsF
    rw [if_neg h, groupsF_fuel n ((n + 1) / 128) ((n + 1) / 128) (by omega) (Nat.le_refl _)]
theorem groupsF_len : ∀ (k f n : Nat), n < 128 ^ (k + 1) → (groupsF f n).length ≤ k + 1
  | k, 0, n, _ => by simp [groupsF]
  | 0, f + 1, n, h => by
    unfold groupsF
    rw [if_pos (by simpa using h)]
    simp
  | k + 1, f + 1, n, h => by
    unfold groupsF
    split
    · simp
    · have := groupsF_len k f (n / 128) (by rw [Nat.div_lt_iff_lt_mul (by decide)]; rw [Nat.pow_succ] at h; exact h)
      simp
      omega
theorem groupsL_len (n : Nat) (h : n ≤ 1073741824) : (groupsL n).length ≤ 5 := by
  refine groupsF_len 4 n n ?_
  have : (128 : Nat) ^ (4 + 1) = 34359738368 := by decide
  omega
theorem groupsL_ne (n : Nat) : groupsL n ≠ [] := by
  unfold groupsL
  cases n with
  | zero => simp [groupsF]
  | succ n => unfold groupsF; split <;> simp
/-- A number's bytes; none, if there is no such number. -/
def putM (n : Int) : List UInt8 := if 0 ≤ n ∧ n ≤ 1073741824 then groupsL n.toNat else []
theorem putM_len (n : Int) : (putM n).length ≤ 5 := by
  unfold putM
  split
  · exact groupsL_len _ (by omega)
  · simp
theorem putM_ne (n : Int) (h : 0 ≤ n ∧ n ≤ 1073741824) : putM n ≠ [] := by
  unfold putM
  rw [if_pos h]
  exact groupsL_ne _

/-- The place of the last byte of what bytes begin with. -/
def endM : List UInt8 → Nat → Option Nat
  | _, 0 => none
  | [], _ => none
  | c :: l, k + 1 => if c < 128 then some 0 else (endM l k).map (· + 1)
/-- The number of some bytes. -/
def valM : List UInt8 → Nat
  | [] => 0
  | c :: l => c.toNat % 128 + 128 * valM l
/-- The number that bytes begin with, and how many bytes it has, or what is wrong. -/
def takeM (l : List UInt8) : Int × Int × Int :=
  match endM l 5 with
  | none => if l.length < 5 then (0, 0, 5) else (0, 0, 2)
  | some i => if l.getD i 0 = 0 ∧ 0 < i then (0, 0, 7) else if 1073741824 < valM (l.take (i + 1)) then (0, 0, 2) else (valM (l.take (i + 1)), i + 1, 0)
end Go.Proofs.YtjmfdacnaodfdaaDoor

namespace Go.Proofs.YtjmfdacnaodfdaaDoor
set_option linter.unusedVariables false
set_option linter.unusedSimpArgs false

/-- The first k bytes are none a number's last. -/
def HiTo (l : List UInt8) (k : Nat) : Prop := ∀ j, j < k → ∃ h : j < l.length, 128 ≤ l[j].toNat
theorem HiTo.zero (l : List UInt8) : HiTo l 0 := fun j h => absurd h (Nat.not_lt_zero _)
theorem HiTo.succ {l : List UInt8} {k : Nat} (h : HiTo l k) (hk : k < l.length) (hc : 128 ≤ l[k].toNat) : HiTo l (k + 1) := fun j hj => by
  rcases Nat.lt_or_ge j k with h1 | h1
  · exact h j h1
  · obtain rfl : j = k := by omega
    exact ⟨hk, hc⟩
theorem lt128 (c : UInt8) : c < 128 ↔ c.toNat < 128 := UInt8.lt_iff_toNat_lt
theorem endM_some : ∀ (l : List UInt8) (k i : Nat), i < k → HiTo l i → (h : i < l.length) → l[i].toNat < 128 → endM l k = some i
  | [], k, i, _, _, h, _ => by simp at h
  | c :: l, 0, i, hk, _, _, _ => by omega
  | c :: l, k + 1, 0, _, _, _, hc => by
    unfold endM
    rw [if_pos ((lt128 c).2 hc)]
  | c :: l, k + 1, i + 1, hk, hh, h, hc => by
    obtain ⟨h0, h1⟩ := hh 0 (by omega)
    have hn : ¬ c < 128 := fun e => by have := (lt128 c).1 e; simp at h1; omega
    unfold endM
    rw [if_neg hn, endM_some l k i (by omega) (fun j hj => by
      obtain ⟨a, b⟩ := hh (j + 1) (by omega)
      exact ⟨by simpa using a, by simpa using b⟩) (by simpa using h) (by simpa using hc)]
    rfl
theorem endM_none : ∀ (l : List UInt8) (k : Nat), (∀ j, j < k → ∀ h : j < l.length, 128 ≤ l[j].toNat) → endM l k = none
  | [], 0, _ => rfl
  | [], k + 1, _ => rfl
  | c :: l, 0, _ => rfl
  | c :: l, k + 1, hh => by
    have h1 := hh 0 (by omega) (by simp)
    have hn : ¬ c < 128 := fun e => by have := (lt128 c).1 e; simp at h1; omega
    unfold endM
    rw [if_neg hn, endM_none l k (fun j hj h => hh (j + 1) (by omega) (by simpa using h))]
    rfl
theorem valM_snoc : ∀ (l : List UInt8) (c : UInt8), valM (l ++ [c]) = valM l + c.toNat % 128 * 128 ^ l.length
  | [], c => by simp [valM]
  | d :: l, c => by
    simp only [List.cons_append, valM, valM_snoc l c, List.length_cons]
    rw [Nat.pow_succ, Nat.mul_add, ← Nat.mul_assoc, Nat.mul_comm 128 (c.toNat % 128), Nat.mul_assoc, Nat.mul_comm 128 (128 ^ l.length)]
    omega
theorem valM_lt : ∀ (l : List UInt8), valM l < 128 ^ l.length
  | [] => by simp [valM]
  | c :: l => by
    have := valM_lt l
    have h2 : c.toNat % 128 < 128 := Nat.mod_lt _ (by decide)
    simp only [valM, List.length_cons, Nat.pow_succ]
    omega
theorem valM_take (l : List UInt8) (k : Nat) (h : k < l.length) : valM (l.take (k + 1)) = valM (l.take k) + l[k].toNat % 128 * 128 ^ k := by
  rw [show l.take (k + 1) = l.take k ++ [l[k]] by simp, valM_snoc, List.length_take, Nat.min_eq_left (by omega)]
theorem take_short {l : List UInt8} (h : HiTo l l.length) (h5 : l.length < 5) : takeM l = (0, 0, 5) := by
  unfold takeM
  rw [endM_none l 5 fun j _ hj => (h j hj).2]
  simp only [if_pos h5]
theorem take_long {l : List UInt8} (h : HiTo l 5) : takeM l = (0, 0, 2) := by
  have h4 := (h 4 (by omega)).1
  unfold takeM
  rw [endM_none l 5 fun j hj _ => (h j hj).2]
  simp only [if_neg (show ¬ l.length < 5 by omega)]
theorem take_at {l : List UInt8} {k : Nat} (h : HiTo l k) (h5 : k < 5) (hk : k < l.length) (hc : l[k].toNat < 128) :
    takeM l = if l[k] = 0 ∧ 0 < k then (0, 0, 7) else if 1073741824 < valM (l.take (k + 1)) then (0, 0, 2) else (((valM (l.take (k + 1)) : Nat) : Int), (k : Int) + 1, 0) := by
  unfold takeM
  rw [endM_some l 5 k h5 h hk hc]
  simp only [List.getD_eq_getElem?_getD, List.getElem?_eq_getElem hk, Option.getD_some]
end Go.Proofs.YtjmfdacnaodfdaaDoor

namespace Go.Proofs.YtjmfdacnaodfdaaDoor
set_option linter.unusedVariables false
set_option linter.unusedSimpArgs false
open Go.RowKit

/-- Nothing below n0 has turned, and of what was there nothing of O. -/
structure Moved (n0 : Nat) (O : Nat → Prop) (W W' : World) : Prop where
  below : Below n0 W W'
  keep : ∀ k, k < W.heap.size → O k → W'.heap[k]? = W.heap[k]?

theorem Moved.refl (n0 : Nat) (O : Nat → Prop) (W : World) : Moved n0 O W W := ⟨Below.refl _ _, fun _ _ _ => rfl⟩
theorem Moved.trans {n0 : Nat} {O : Nat → Prop} {A B C : World} (h : Moved n0 O A B) (k : Moved n0 O B C) : Moved n0 O A C :=
  ⟨h.below.trans k.below, fun i hi ho => (k.keep i (Nat.lt_of_lt_of_le hi h.below.size) ho).trans (h.keep i hi ho)⟩
theorem Moved.mono {n0 : Nat} {O O' : Nat → Prop} {A B : World} (h : Moved n0 O A B) (ho : ∀ k, k < A.heap.size → O' k → O k) : Moved n0 O' A B :=
  ⟨h.below, fun i hi hk => h.keep i hi (ho i hi hk)⟩
theorem Moved.alloc {n0 : Nat} {O : Nat → Prop} {W : World} (h : n0 ≤ W.heap.size) (o : Obj) : Moved n0 O W (W.alloc o) :=
  ⟨(Below.refl _ _).alloc h _, fun k hk _ => Below.heap_alloc W o k hk⟩
theorem Moved.setCell {n0 : Nat} {O : Nat → Prop} (W : World) (a : Addr) (v : Value) (h : n0 ≤ a.block) (ho : ¬ O a.block) : Moved n0 O W (W.setCell a v) :=
  ⟨(Below.refl _ _).setCell h _, fun k _ hk => Below.heap_setCell W a v k (fun e => ho (e ▸ hk))⟩
theorem Moved.putObj {n0 : Nat} {O : Nat → Prop} (W : World) (l : Nat) (o : Obj) (h : n0 ≤ l) (hl : l < W.heap.size) (ho : ¬ O l) : Moved n0 O W (W.putObj l o) :=
  ⟨(Below.refl _ _).grown (grownBy_putObj' W l o) (by omega) (fun k e => by cases e; exact h), fun k _ hk => World.putObj_heap_other (fun e => ho (e ▸ hk))⟩
theorem Moved.grown {n0 : Nat} {O : Nat → Prop} {W W' : World} {row : Option Nat} (hg : W.grownBy W' row) (hn : n0 ≤ W.heap.size) (hr : ∀ k, row = some k → n0 ≤ k ∧ ¬ O k) : Moved n0 O W W' :=
  ⟨(Below.refl _ _).grown hg hn (fun k e => (hr k e).1), fun k hk ho => hg.block k hk (fun e => (hr k e.symm).2 ho)⟩
theorem Moved.drew {n0 : Nat} {O : Nat → Prop} (W : World) (n : Nat) : Moved n0 O W (W.drewN n) :=
  ⟨⟨rfl, rfl, rfl, Nat.le_refl _, fun _ _ => rfl⟩, fun _ _ _ => rfl⟩

/-- The word of an iterator's value: called at the yield of any loop, against any consumer who says what he leans on (O) and keeps off what the iterator leans on (mine). Jx: a round that has said 'no more'. -/
def SeqSep {α : Type} (F : Fence) (n : Nat) (P : Program) (g : Nat) (lb : Array Value) (encs : α → Array Value) (xs : List α) (n0 : Nat) (mine : Nat → Prop) (w : World) : Prop :=
  ∀ (l : Nat) (J : List α → (Nat → Prop) → World → Prop) (Jx : List α → World → Prop) (O : Nat → Prop) (W : World),
    Moved n0 mine w W → (∀ k, mine k → ¬ O k) →
    (∀ pre O A B, J pre O A → Moved n0 O A B → J pre O B) →
    (∀ pre O A, J pre O A → n0 ≤ A.heap.size ∧ ∀ k, O k → k < A.heap.size) →
    (∀ pre O x A, J pre O A → pre ++ [x] <+: xs → YieldAt F (n - 1) P l (encs x) A fun e B =>
      (e = .returned (.bool true) ∧ Moved n0 (fun k => ¬ O k) A B ∧ ∃ O', (∀ k, O' k → O k ∨ A.heap.size ≤ k) ∧ J (pre ++ [x]) O' B) ∨
      (e = .returned (.bool false) ∧ Jx (pre ++ [x]) B)) →
    J [] O W →
    CallsIn F n P g (#[.func (.yield l) #[] #[]] ++ lb) W fun e W' => (∃ v, e = .returned v) ∧ ((∃ O', J xs O' W') ∨ (∃ pre, pre <+: xs ∧ Jx pre W'))

/-- How a round's body may be left. -/
def sepPost {α : Type} (n0 : Nat) (I : List α → (Nat → Prop) → World → Prop) (Ix : Code → List α → World → Prop) (O : Nat → Prop) (xs : List α) (W : World) (l D : Nat) : Exit → Act → World → Prop
  | .normal, _, W' => Moved n0 (fun k => ¬ O k) W W' ∧ ∃ O', (∀ k, O' k → O k ∨ W.heap.size ≤ k) ∧ I xs O' W'
  | .ret, _, W' => Moved n0 (fun k => k = l ∨ k = D) W W' ∧ Ix .ret xs W'
  | .exit id, _, W' => Moved n0 (fun k => k = l ∨ k = D) W W' ∧ Ix (.exit id) xs W'
  | .goto t, _, W' => Moved n0 (fun k => k = l ∨ k = D) W W' ∧ Ix (.goto t) xs W'
  | .panic _, _, _ => False
  | .outgrown, _, _ => False

variable {F : Fence} {n : Nat} {P : Program}

theorem wpIn_rangeFunc_sep {α : Type} {g : Operand} {ps : Array Tmp} {assign body : Code} {Q : Exit → Act → World → Prop} {a : Act} {w : World}
    (hro : F.round = none) (h1 : 1 ≤ n) {gf : Nat} {lb : Array Value} (hg : a.eval g = .func (.func gf) #[] lb) (hFg : F.fn gf) (eg : ∀ args w, (callFunc gf args).run P w = .ok (.enter gf args) w)
    {encs : α → Array Value} {xs : List α} {n0 : Nat} {mine : Nat → Prop} {w0 : World} (hseq : SeqSep F (n - 1) P gf lb encs xs n0 mine w0) (hb0 : Moved n0 mine w0 w) (hmw : ∀ k, mine k → k < w.heap.size) (hps : ∀ x, (encs x).size = ps.size)
    (I : List α → (Nat → Prop) → World → Prop) (Ix : Code → List α → World → Prop)
    (hI : ∀ pre O A B, I pre O A → Moved n0 O A B → I pre O B)
    (hIx : ∀ c pre A l o, Ix c pre A → w.heap.size ≤ l → A.heap[l]? = some o → o.isCells = false → ∀ o', Ix c pre (A.putObj l o'))
    (hO : ∀ pre O A, I pre O A → n0 ≤ A.heap.size ∧ ∀ k, O k → k < A.heap.size)
    (O0 : Nat → Prop) (hm0 : ∀ k, mine k → ¬ O0 k) (h0 : I [] O0 w) (a₁ : α → Act)
    (hassign : ∀ (l : Nat) (x : α) (W : World) (K : Act → World → Prop), K (a₁ x) W →
      assign.wpIn (F.inRound l) (n - 1 - 1) P (Exit.then K (fun _ _ _ => False)) { tmps := (ps.zip (encs x)).foldl (fun t (p, v) => t.setIfInBounds p v) a.tmps, defers := [] } W)
    (hbody : ∀ (l D : Nat) (pre : List α) (O : Nat → Prop) (x : α) (W : World), I pre O W → pre ++ [x] <+: xs → ¬ O l → ¬ O D → l < W.heap.size → D < W.heap.size →
      body.wpIn (F.inRound l) (n - 1 - 1) P (sepPost n0 I Ix O (pre ++ [x]) W l D) (a₁ x) W)
    (hdone : ∀ (D : Nat) (O : Nat → Prop) (W : World), w.heap.size ≤ D → ¬ O D → I xs O W → W.heap[D]? = some (.deferred (some [])) → Q .normal { a with defers := { target := .collected D, args := #[] } :: a.defers } W)
    (hstop : ∀ (D : Nat) (c : Code) (pre : List α) (W : World), w.heap.size ≤ D → pre <+: xs → Ix c pre W → W.heap[D]? = some (.deferred (some [])) → c.wpIn F n P Q { a with defers := { target := .collected D, args := #[] } :: a.defers } W) :
    (Code.rangeFunc g ps assign body).wpIn F n P Q a w := by
  refine wpIn_rangeFunc ?_
  intro fn hfn
  rw [hro]
  obtain ⟨rec, hrec⟩ : ∃ rec : LoopState → Option Code → Loop, rec = fun st pe => { state := st, pending := pe, fn, tmps := a.tmps, params := ps, assign, body, defers := w.heap.size } := ⟨_, rfl⟩
  obtain ⟨W1, hW1⟩ : ∃ W1, (w.alloc (.deferred (some []))).alloc (.loop (rec .ready none)) = W1 := ⟨_, rfl⟩
  obtain ⟨hn0, hO0⟩ := hO _ _ _ h0
  have mv1 : ∀ O, Moved n0 O w W1 := fun O => by
    rw [← hW1]; exact (Moved.alloc hn0 _).trans (Moved.alloc (by simp; omega) _)
  have hL1 : W1.heap[w.heap.size + 1]? = some (.loop (rec .ready none)) := by
    rw [← hW1]; have := World.alloc_heap_new (w.alloc (.deferred (some []))) (.loop (rec .ready none)); rwa [World.size_alloc] at this
  have hK1 : W1.heap[w.heap.size]? = some (.deferred (some [])) := by
    rw [← hW1]; exact (Below.heap_alloc _ _ _ (by simp)).trans (World.alloc_heap_new w _)
  have hI1 : I [] O0 W1 := hI _ _ _ _ h0 (mv1 _)
  refine ⟨w.heap.size + 1, [{ target := .collected w.heap.size, args := #[] }], W1, { target := .fn (.func gf) lb, args := #[.func (.yield (w.heap.size + 1)) #[] #[]] }, W1, gf,
    #[.func (.yield (w.heap.size + 1)) #[] #[]] ++ lb, W1, ?_, ?_, ?_, ?_, fun _ => h1, ?_⟩
  · rw [← hW1, hrec]; exact run_enterLoop_outer _ _ _ _ _
  · simp only [resolve, hg]
    simp [go_sem]
  · intro f' hf'; simp [Target.leads] at hf'; subst hf'; exact hFg
  · simp [invoke, go_sem, eg]
  · refine (hseq (w.heap.size + 1)
      (fun pre O W => ∃ O', (∀ k, O k ↔ (O' k ∨ k = w.heap.size + 1 ∨ k = w.heap.size)) ∧ ¬ O' (w.heap.size + 1) ∧ ¬ O' w.heap.size ∧ I pre O' W ∧ W.heap[w.heap.size + 1]? = some (.loop (rec .ready none)) ∧ W.heap[w.heap.size]? = some (.deferred (some [])))
      (fun pre W => ∃ c, Ix c pre W ∧ W.heap[w.heap.size + 1]? = some (.loop (rec .done (some c))) ∧ W.heap[w.heap.size]? = some (.deferred (some [])))
      (fun k => O0 k ∨ k = w.heap.size + 1 ∨ k = w.heap.size) W1 (hb0.trans (mv1 _)) ?_ ?_ ?_ ?_ ?_).mono ?_
    · rintro k hk (h | h | h)
      · exact hm0 k hk h
      · have := hmw k hk; omega
      · have := hmw k hk; omega
    · rintro pre O A B ⟨O', hO', hl', hd', hi, hl, hk⟩ hm
      exact ⟨O', hO', hl', hd', hI _ _ _ _ hi (hm.mono fun k _ h => (hO' k).2 (.inl h)), (hm.keep _ (Array.getElem?_eq_some_iff.1 hl).1 ((hO' _).2 (.inr (.inl rfl)))).trans hl,
        (hm.keep _ (Array.getElem?_eq_some_iff.1 hk).1 ((hO' _).2 (.inr (.inr rfl)))).trans hk⟩
    · rintro pre O A ⟨O', hO', hl', hd', hi, hl, hk⟩
      refine ⟨(hO _ _ _ hi).1, fun k h => ?_⟩
      rcases (hO' k).1 h with h | rfl | rfl
      · exact (hO _ _ _ hi).2 k h
      · exact (Array.getElem?_eq_some_iff.1 hl).1
      · exact (Array.getElem?_eq_some_iff.1 hk).1
    · -- one round
      rintro pre O x A ⟨O', hO', hl', hd', hi, hl, hk⟩ hpre
      have hlt : w.heap.size + 1 < A.heap.size := (Array.getElem?_eq_some_iff.1 hl).1
      have hy := run_yield (P := P) (args := encs x) hl (by rw [hrec]; exact hps x)
      rw [hrec] at hy
      refine ⟨fn, _, assign, body, hy, roundIn_of_wpIn hfn (hassign _ x A _ ⟨_, run_beginRound hl (by rw [hrec]), ?_⟩)⟩
      have hl2 : (A.putObj (w.heap.size + 1) (.loop { rec .ready none with state := .busy })).heap[w.heap.size + 1]? = some (.loop { rec .ready none with state := .busy }) := World.putObj_heap_same hlt
      have hk2 : (A.putObj (w.heap.size + 1) (.loop { rec .ready none with state := .busy })).heap[w.heap.size]? = some (.deferred (some [])) := (World.putObj_heap_other (by omega)).trans hk
      have hm2 : Moved n0 O' A (A.putObj (w.heap.size + 1) (.loop { rec .ready none with state := .busy })) := Moved.putObj _ _ _ (by omega) hlt hl'
      have hm2' : Moved n0 (fun k => ¬ O k) A (A.putObj (w.heap.size + 1) (.loop { rec .ready none with state := .busy })) := Moved.putObj _ _ _ (by omega) hlt (fun h => h ((hO' _).2 (.inr (.inl rfl))))
      refine wpIn_mono (hbody _ w.heap.size pre O' x _ (hI _ _ _ _ hi hm2) hpre hl' hd' (by simpa using hlt) (by simp; omega)) ?_
      have fin : ∀ (jump : Option Code) (W3 : World), Moved n0 (fun k => k = w.heap.size + 1 ∨ k = w.heap.size) (A.putObj (w.heap.size + 1) (.loop { rec .ready none with state := .busy })) W3 →
          (Instr.endRound (w.heap.size + 1) jump).run P W3 = .ok (.bool jump.isNone) (W3.putObj (w.heap.size + 1) (.loop (rec (if jump.isNone then .ready else .done) jump))) ∧
          W3.heap[w.heap.size + 1]? = some (.loop { rec .ready none with state := .busy }) ∧
          (W3.putObj (w.heap.size + 1) (.loop (rec (if jump.isNone then .ready else .done) jump))).heap[w.heap.size + 1]? = some (.loop (rec (if jump.isNone then .ready else .done) jump)) ∧
          (W3.putObj (w.heap.size + 1) (.loop (rec (if jump.isNone then .ready else .done) jump))).heap[w.heap.size]? = some (.deferred (some [])) := fun jump W3 hk3 => by
        have hl3 := (hk3.keep _ (by simpa using hlt) (.inl rfl)).trans hl2
        have := run_endRound (P := P) jump hl3
        rw [hrec] at this ⊢
        exact ⟨this, by rw [hrec] at hl3; exact hl3, World.putObj_heap_same (Array.getElem?_eq_some_iff.1 hl3).1, (World.putObj_heap_other (by omega)).trans ((hk3.keep _ (by simp; omega) (.inr rfl)).trans hk2)⟩
      rintro e a3 W3 hp
      cases e with
      | normal =>
        obtain ⟨hk3, O2, hO2, hi3⟩ := hp
        have hk3' := hk3.mono (O' := fun k => k = w.heap.size + 1 ∨ k = w.heap.size) (fun k _ h => by rcases h with rfl | rfl <;> assumption)
        obtain ⟨hr, hl3, hl4, hk4⟩ := fin none W3 hk3'
        have hlt3 : w.heap.size + 1 < W3.heap.size := (Array.getElem?_eq_some_iff.1 hl3).1
        have hnl : ¬ O2 (w.heap.size + 1) := fun h => by
          rcases hO2 _ h with h | h
          · exact hl' h
          · simp at h; omega
        have hnd : ¬ O2 w.heap.size := fun h => by
          rcases hO2 _ h with h | h
          · exact hd' h
          · simp at h; omega
        refine ⟨_, _, hr, .inl ⟨rfl, ?_, fun k => O2 k ∨ k = w.heap.size + 1 ∨ k = w.heap.size, ?_, O2, fun k => Iff.rfl, hnl, hnd, ?_, hl4, hk4⟩⟩
        · refine (hm2'.trans (hk3.mono ?_)).trans (Moved.putObj _ _ _ (by omega) hlt3 (fun h => h ((hO' _).2 (.inr (.inl rfl)))))
          intro k _ h h'
          exact h ((hO' k).2 (.inl h'))
        · rintro k (h | h | h)
          · rcases hO2 _ h with h | h
            · exact .inl ((hO' k).2 (.inl h))
            · exact .inr (by simpa using h)
          · exact .inl ((hO' k).2 (.inr (.inl h)))
          · exact .inl ((hO' k).2 (.inr (.inr h)))
        · exact hI _ _ _ _ hi3 (Moved.putObj _ _ _ (by omega) hlt3 hnl)
      | ret =>
        obtain ⟨hk3, hi3⟩ := hp
        obtain ⟨hr, hl3, hl4, hk4⟩ := fin (some .ret) W3 hk3
        exact ⟨_, _, hr, .inr ⟨rfl, .ret, hIx _ _ _ _ _ hi3 (by omega) hl3 rfl _, hl4, hk4⟩⟩
      | exit id =>
        obtain ⟨hk3, hi3⟩ := hp
        obtain ⟨hr, hl3, hl4, hk4⟩ := fin (some (.exit id)) W3 hk3
        exact ⟨_, _, hr, .inr ⟨rfl, .exit id, hIx _ _ _ _ _ hi3 (by omega) hl3 rfl _, hl4, hk4⟩⟩
      | goto t =>
        obtain ⟨hk3, hi3⟩ := hp
        obtain ⟨hr, hl3, hl4, hk4⟩ := fin (some (.goto t)) W3 hk3
        exact ⟨_, _, hr, .inr ⟨rfl, .goto t, hIx _ _ _ _ _ hi3 (by omega) hl3 rfl _, hl4, hk4⟩⟩
      | panic ch => exact hp.elim
      | outgrown => exact hp.elim
    · exact ⟨O0, fun k => Iff.rfl, fun h => by have := hO0 _ h; omega, fun h => by have := hO0 _ h; omega, hI1, hL1, hK1⟩
    · -- behind the iterator
      rintro e W2 ⟨⟨v, rfl⟩, (⟨O, O', hO', hl', hd', hi, hl, hk⟩ | ⟨pre, hSp, c, hi, hl, hk⟩)⟩
      · have hlt2 := (Array.getElem?_eq_some_iff.1 hl).1
        exact ⟨none, _, by have := run_endLoop (P := P) hl (by rw [hrec]; simp); rw [hrec] at this; exact this, hdone _ O' _ (Nat.le_refl _) hd' (hI _ _ _ _ hi (Moved.putObj _ _ _ (by omega) hlt2 hl')) ((World.putObj_heap_other (by omega)).trans hk)⟩
      · exact ⟨some c, _, by have := run_endLoop (P := P) hl (by rw [hrec]; simp); rw [hrec] at this; exact this, hstop _ c pre _ (Nat.le_refl _) hSp (hIx _ _ _ _ _ hi (by omega) hl rfl _) ((World.putObj_heap_other (by omega)).trans hk)⟩

/-- An append to a row of the call's own, inside a fence: where the new row lies. -/
theorem wpListIn_append_lies (w : World) {ops : Array Oper} {rest : List Oper} {o : Oper} {a : Act} {Q : Exit → Act → World → Prop}
    (hg : o.guard = none) (s x : Operand) (t : TypeId) (hop : o.op = Op.call { callee := Callee.builtin Builtin.append, args := #[s, x], argTypes := #[t, t] })
    (base : Nat) (e : TypeId) (i : TypeInfo) (z : Value) (size bytes : Nat) (h1 : P.underlying t = some (.slice e)) (h2 : P.info? e = some i) (h3 : i.zero = some z) (h4 : i.size = size) (h5 : i.bytes = bytes) (h6 : z.cells.size = size) (h7 : 0 < size)
    (v : Value) (k : Nat) (xs : List Value) (hs : a.eval s = v) (hown : w.ownsRow base e size v k xs) (ad : Addr) (m c : Nat) (news : List Value) (hx : a.eval x = .slice (some ad) m c) (hn : news.length = m * size)
    (hc : ∀ j u, news[j]? = some u → w.cell? (ad.add j) = some u) (h1c : ∀ u ∈ news, u.oneCell' = true) (hm : 0 < m) (b1 : k + m ≤ maxLen) (b2 : (k + m) * bytes ≤ 140737488355328) (b3 : base ≤ w.heap.size) (H : Nat) (hH : w.heap.size = H)
    (hK : ∀ g cap w', w'.ownsRow base e size (.slice (some ⟨g, 0, none⟩) (k + m) cap) (k + m) (xs ++ news) → w.grownBy w' v.ownBlock → (v.ownBlock = some g ∨ g = H) → g < w'.heap.size → wpListIn F n P ops Q rest (a.put o.dst (.slice (some ⟨g, 0, none⟩) (k + m) cap)) w') :
    wpListIn F n P ops Q (o :: rest) a w := by
  refine wpListIn_plain hg fun K hK' => ?_
  obtain ⟨g, cap, w', hrun, r1, r2, r3, r4⟩ := run_append_lies (P := P) w t o.type base e i z size bytes h1 h2 h3 h4 h5 h6 h7 v k xs hown ad m c news hn hc h1c hm b1 b2 b3 H hH
  unfold Oper.wpIn
  refine ⟨?_, ?_⟩
  · simp [Oper.about, hop, resolve, Target.leads, Sem.run_pure]
  · rw [Oper.semAt_plain F _ _ (by rw [hop]; intro c hc'; cases hc')]
    simp [execOp, hop, resolve, invoke, builtin, hs, hx, hrun, Result.andThen]
    exact hK' _ _ (hK g cap w' r1 r2 r3 r4)

end Go.Proofs.YtjmfdacnaodfdaaDoor

namespace Go.Proofs.YtjmfdacnaodfdaaDoor
set_option linter.unusedVariables false
open Go.RowKit

theorem cell_below {w w' : World} {a : Addr} {u : Value} (hb : Below w.heap.size w w') (h : w.cell? a = some u) : w'.cell? a = some u := by
  have hlt : a.block < w.heap.size := by
    rcases Nat.lt_or_ge a.block w.heap.size with h1 | h1
    · exact h1
    · simp [World.cell?, Array.getElem?_eq_none h1] at h
  unfold World.cell? at h ⊢
  rw [hb.block _ hlt]
  exact h

theorem own_keep {w w1 : World} {base : Nat} {e : TypeId} {size n : Nat} {v : Value} {xs : List Value} (h : w.ownsRow base e size v n xs) (hm : ∀ k, v.ownBlock = some k → w1.heap[k]? = w.heap[k]?) : w1.ownsRow base e size v n xs := by
  refine ⟨h.1, ?_⟩
  rcases h.2 with h2 | ⟨g, cap, cur, rfl, h3, h4, h5⟩
  · exact .inl h2
  · exact .inr ⟨g, cap, cur, rfl, h3, by rw [hm g rfl]; exact h4, h5⟩
theorem own_lt' {w : World} {base : Nat} {e : TypeId} {size n : Nat} {v : Value} {xs : List Value} (h : w.ownsRow base e size v n xs) (k : Nat) (hk : v.ownBlock = some k) : k < w.heap.size := (h.lt k hk).2
theorem own_ge' {w : World} {base : Nat} {e : TypeId} {size n : Nat} {v : Value} {xs : List Value} (h : w.ownsRow base e size v n xs) (k : Nat) (hk : v.ownBlock = some k) : base ≤ k := (h.lt k hk).1
theorem own_shape {w : World} {base : Nat} {e : TypeId} {size n : Nat} {v : Value} {xs : List Value} (h : w.ownsRow base e size v n xs) : ∃ A c, v = .slice A n c := by
  rcases h.2 with ⟨rfl, rfl⟩ | ⟨g, cap, cur, rfl, _⟩
  · exact ⟨none, 0, rfl⟩
  · exact ⟨_, _, rfl⟩
theorem addr_add (g j : Nat) : (⟨g, 0, none⟩ : Addr).add j = ⟨g, j, none⟩ := by
  unfold Addr.add
  by_cases h : j = 0
  · subst h; rfl
  · simp [h]
theorem cells_new (w : World) (xs : List Value) (t : TypeId) (j : Nat) (u : Value) (h : xs[j]? = some u) : (w.alloc (.cells xs.toArray t)).cell? ((⟨w.heap.size, 0, none⟩ : Addr).add j) = some u := by
  rw [addr_add]
  have hn := World.alloc_heap_new w (.cells xs.toArray t)
  unfold World.cell?
  rw [hn]
  simpa using h

/-- Bytes, as cells. -/
def byteV (l : List UInt8) : List Value := l.map fun b => .int .u8 (b.toNat : Int)
theorem byteV_length (l : List UInt8) : (byteV l).length = l.length := by simp [byteV]
theorem byteV_append (a b : List UInt8) : byteV (a ++ b) = byteV a ++ byteV b := by simp [byteV]
theorem byteV_one (l : List UInt8) : ∀ u ∈ byteV l, u.oneCell' = true := by
  intro u hu
  simp only [byteV, List.mem_map] at hu
  obtain ⟨b, _, rfl⟩ := hu
  rfl

theorem bytes_string {w : World} {A : Option Addr} {cap : Nat} (l : List UInt8) (h : ∀ ad, A = some ad → ∀ j u, (byteV l)[j]? = some u → w.cell? (ad.add j) = some u) (hA : A = none → l = []) :
    (convert 44 9 (.slice A l.length cap)).run Tryd.prog w = .ok (.string ⟨l.toArray⟩) w := by
  cases A with
  | none =>
    have := hA rfl
    subst this
    rw [run_convert_bytes_string w _ _ 5 none _ cap Tryd.underlying44 Tryd.underlying5 Tryd.underlying9]
    rfl
  | some a =>
    refine run_convert_bytes_back w _ _ 5 a cap l Tryd.underlying44 Tryd.underlying5 Tryd.underlying9 (fun j hj => ?_)
    exact h a rfl j _ (by simp [byteV, List.getElem?_eq_getElem hj])

theorem own_string {w : World} {base : Nat} {v : Value} {l : List UInt8} (h : w.ownsRow base 5 1 v l.length (byteV l)) : (convert 44 9 v).run Tryd.prog w = .ok (.string ⟨l.toArray⟩) w := by
  obtain ⟨A, c, rfl⟩ := own_shape h
  refine bytes_string l (fun ad hA j u hj => ?_) (fun hA => ?_)
  · subst hA
    rcases h.2 with ⟨h1, _⟩ | ⟨g, cap, cur, h1, _⟩
    · cases h1
    · cases h1
      exact h.cells (g := g) rfl j u hj
  · subst hA
    rcases h.2 with ⟨_, h1⟩ | ⟨g, cap, cur, h1, _⟩
    · have : l.length = 0 := by simpa using h1
      exact List.length_eq_zero_iff.1 this
    · cases h1
end Go.Proofs.YtjmfdacnaodfdaaDoor

namespace Go.Proofs.YtjmfdacnaodfdaaDoor
set_option linter.unusedVariables false
set_option linter.unusedSimpArgs false
open Go.RowKit

theorem info_u8 : (Tryd.prog.info? 5).map (fun i => (i.zero, i.size, i.bytes)) = some (some (.int .u8 0), 1, 1) := by kernel_rfl
def AnyW (_ : World) : Prop := True
theorem anyW (w : World) : AnyW w := trivial

theorem tab_below {P : Program} {w w' : World} {n : String} {k : IntKind} {zs : List Int} (h : Lib.TabIs P w n k zs) (hb : Below w.heap.size w w') : Lib.TabIs P w' n k zs := by
  unfold Lib.TabIs World.var? at h ⊢
  cases hg : P.globalNamed n with
  | none => rw [hg] at h; cases h
  | some g =>
    rw [hg] at h
    simp only [Option.bind_some] at h ⊢
    have hlt : g < w.heap.size := by
      rcases Nat.lt_or_ge g w.heap.size with h1 | h1
      · exact h1
      · rw [Array.getElem?_eq_none h1] at h
        cases h
    rw [hb.block g hlt]
    exact h

def fieldsTab : List Int := [48, 16, 2, 2, 3, 3, 3, 15, 2, 6, 0, 0, 0]
/-- Each kind's own fields. -/
def Flds (w : World) : Prop := Lib.TabIs Tryd.prog w "hearsay/ops.fields" .i64 fieldsTab
theorem Flds.below {w w' : World} (h : Flds w) (hb : Below w.heap.size w w') : Flds w' := tab_below h hb

structure Door (w : World) : Prop where
  flds : Flds w

theorem Door.below {w w' : World} (h : Door w) (hb : Below w.heap.size w w') : Door w' := ⟨h.flds.below hb⟩

theorem gFields : Tryd.prog.globalNamed "hearsay/ops.fields" = some 0 := by kernel_rfl
theorem Flds.cell {w : World} (h : Flds w) (i : Nat) (hi : i < 13) : w.cell? ⟨0, i, none⟩ = some (.int .i64 (fieldsTab.getD i 0)) := by
  have := Lib.TabIs.cell h gFields i (by simpa [fieldsTab] using hi)
  exact this
theorem thirteen {K : Int} (h0 : 0 ≤ K) (h13 : K < 13) : K = 0 ∨ K = 1 ∨ K = 2 ∨ K = 3 ∨ K = 4 ∨ K = 5 ∨ K = 6 ∨ K = 7 ∨ K = 8 ∨ K = 9 ∨ K = 10 ∨ K = 11 ∨ K = 12 := by omega
end Go.Proofs.YtjmfdacnaodfdaaDoor

namespace Go.Proofs.YtjmfdacnaodfdaaDoor
set_option linter.unusedVariables false
set_option linter.unusedSimpArgs false
open Go.RowKit Go.Shelf
attribute [local go_sem] Oper.semAt_some

theorem right_any (n : Int) (w : World) :
    Calls Tryd.prog 63 #[.int .i64 n] w fun e w' => e = .returned (.bool (decide (0 ≤ n ∧ n ≤ 1073741824))) ∧ w = w' := by
  by_cases h0 : 0 ≤ n
  · by_cases h1 : n ≤ 1073741824
    · rw [decide_eq_true ⟨h0, h1⟩]
      go_enter Tryd.func63, Tryd.ntmps63
      go_wp2
      go_ret
      exact ⟨rfl, rfl⟩
    · rw [decide_eq_false fun h => h1 h.2]
      go_enter Tryd.func63, Tryd.ntmps63
      go_wp2
      go_ret
      exact ⟨rfl, rfl⟩
  · rw [decide_eq_false fun h => h0 h.1]
    go_enter Tryd.func63, Tryd.ntmps63
    go_wp2
    go_ret
    exact ⟨rfl, rfl⟩

theorem groups_any (n : Int) (w : World) :
    Calls Tryd.prog 64 #[.int .i64 n] w fun e w' => e = .returned (.func (.func 73) #[] #[.pointer (some ⟨w.heap.size, 0, none⟩)]) ∧ w.alloc (.cells #[.int .i64 n] 3) = w' := by
  go_enter Tryd.func64, Tryd.ntmps64
  go_wp2
  go_ret
  exact ⟨rfl, rfl⟩

theorem or_high (r : Nat) (h : r < 128) : bits BinOp.or IntKind.u8 (r : Int) 128 = ((UInt8.ofNat (r + 128)).toNat : Int) := by
  have : ∀ r : Fin 128, bits BinOp.or IntKind.u8 (r.val : Int) 128 = ((UInt8.ofNat (r.val + 128)).toNat : Int) := by decide +kernel
  exact this ⟨r, h⟩
theorem low_u8 (r : Nat) (h : r < 128) : ((UInt8.ofNat r).toNat : Int) = (r : Int) := by
  have : ∀ r : Fin 128, ((UInt8.ofNat r.val).toNat : Int) = (r.val : Int) := by decide +kernel
  exact this ⟨r, h⟩

set_option maxHeartbeats 1000000 in
set_option maxRecDepth 100000 in
theorem groups1_sep (m : Nat) (hm : 2 ≤ m) (Bn n0 n : Nat) (hn : n ≤ 1073741824) (w : World) (hb : Boxed w Bn 3 (.int .i64 n)) (h0n : n0 ≤ Bn) :
    SeqSep Fence.wide m Tryd.prog 73 #[.pointer (some ⟨Bn, 0, none⟩)] (fun x : UInt8 => #[.int .u8 (x.toNat : Int)]) (groupsL n) n0 (fun b => b = Bn) w := by
  intro l J Jx O W hmv hOm hJ hlt hY h0
  have HJ := Lib.hid hJ
  have HL := Lib.hid hlt
  have HY := Lib.hid hY
  have hO0 : ¬ O Bn := hOm Bn rfl
  have hnW : Boxed W Bn 3 (.int .i64 n) := (hmv.keep _ hb.lt rfl).trans hb
  clear hJ hlt hY hOm hmv hb
  refine callsIn_of_wp Tryd.func73 rfl trivial ?_ rfl
  simp only [Tryd.ntmps73, List.size_toArray, List.length_cons, List.length_nil, Nat.reduceAdd, Nat.reduceSub, Array.replicate_succ, Array.replicate_zero, List.push_toArray, List.append_toArray, List.nil_append, List.cons_append]
  gi_wp2
  gi_loopw [3] (fun _ wr => ∃ (pre : List UInt8) (q : Nat) (O' : Nat → Prop), groupsL n = pre ++ groupsL q ∧ q ≤ 1073741824 ∧ Boxed wr Bn 3 (.int .i64 q) ∧ J pre O' wr ∧ ¬ O' Bn) (fun _ wr => match wr.cell? ⟨Bn, 0, none⟩ with | some (.int _ q) => q.toNat | _ => 0)
  case atStart => exact ⟨[], n, O, rfl, hn, hnW, h0, hO0⟩
  case round =>
    obtain ⟨pre, q, O', hx, hq, hbq, hJq, hO'⟩ := hrel
    have hc := hbq.cell
    have hf := hbq.frozen
    by_cases hlt : q < 128
    · have hlt' : ¬ (128 : Int) ≤ q := by omega
      have hx2 : groupsL n = pre ++ [UInt8.ofNat q] := by rw [hx, groupsL_small q hlt]
      obtain ⟨fn, tmps, assign, body, hy, hR⟩ := HY.out pre O' (UInt8.ofNat q) _ hJq ⟨[], by rw [List.append_nil, hx2]⟩
      rw [low_u8 q hlt] at hy
      have HX := Lib.hid hx2
      have HR := Lib.hid hR
      clear hx hx2 hR
      gi_wp2
      refine ⟨fun _ => by omega, HR.out.mono ?_⟩
      rintro e W' (⟨rfl, hm', O2, hO2, hJ3⟩ | ⟨rfl, hJx⟩)
      · gi_wp2
        go_end0
        exact ⟨⟨_, rfl⟩, .inl ⟨O2, by rw [HX.out]; exact hJ3⟩⟩
      · gi_wp2
        go_end0
        exact ⟨⟨_, rfl⟩, .inr ⟨_, by rw [HX.out]; exact List.prefix_refl _, hJx⟩⟩
    · have hlt' : (128 : Int) ≤ q := by omega
      have hx2 : groupsL n = (pre ++ [UInt8.ofNat (q % 128 + 128)]) ++ groupsL (q / 128) := by rw [hx, groupsL_big q hlt]; simp
      obtain ⟨fn, tmps, assign, body, hy, hR⟩ := HY.out pre O' _ _ hJq ⟨_, hx2.symm⟩
      rw [← or_high (q % 128) (Nat.mod_lt _ (by decide)), show ((q % 128 : Nat) : Int) = (q : Int) % 128 by omega] at hy
      have HX := Lib.hid hx2
      have HR := Lib.hid hR
      clear hx hx2 hR
      gi_wp2
      refine ⟨fun _ => by omega, HR.out.mono ?_⟩
      rintro e W' (⟨rfl, hm', O2, hO2, hJ3⟩ | ⟨rfl, hJx⟩)
      · have hb2 : Boxed W' Bn 3 (.int .i64 q) := (hm'.keep _ hbq.lt hO').trans hbq
        have hc2 := hb2.cell
        have hf2 := hb2.frozen
        have hO2' : ¬ O2 Bn := fun h => by
          rcases hO2 _ h with h | h
          · exact hO' h
          · have := hbq.lt; omega
        gi_wp2
        have hb3 : Boxed (W'.setCell ⟨Bn, 0, none⟩ (.int .i64 ((q : Int) / 128))) Bn 3 (.int .i64 ((q / 128 : Nat) : Int)) := by
          have h := hb2.set (.int .i64 ((q : Int) / 128))
          rwa [show (q : Int) / 128 = ((q / 128 : Nat) : Int) by simp] at h ⊢
        refine ⟨⟨_, q / 128, O2, HX.out, by omega, hb3, HJ.out _ _ _ _ hJ3 (Moved.setCell _ _ _ h0n hO2'), hO2'⟩, ?_⟩
        rw [hb3.cell, hc]
        simp only [Int.toNat_natCast]
        omega
      · gi_wp2
        refine bodyPost_ret (v := .tuple #[]) (results_none rfl _ _ _) rfl ?_
        exact ⟨⟨_, rfl⟩, .inr ⟨_, ⟨_, HX.out.symm⟩, hJx⟩⟩

/-- What the loop of Put leans on. -/
def ApB (n0 Bs : Nat) (w0 : World) (pre : List UInt8) (O : Nat → Prop) (W : World) : Prop :=
  ∃ v, Boxed W Bs 44 v ∧ W.ownsRow n0 5 1 v pre.length (byteV pre) ∧ (v = .slice none 0 0 ↔ pre = []) ∧ Below n0 w0 W ∧ (∀ k, O k ↔ (k = Bs ∨ some k = v.ownBlock)) ∧ n0 ≤ Bs ∧ n0 ≤ w0.heap.size
theorem ApB.moved {n0 Bs : Nat} {w0 : World} {pre : List UInt8} {O : Nat → Prop} {A B : World} (h : ApB n0 Bs w0 pre O A) (hm : Moved n0 O A B) : ApB n0 Bs w0 pre O B := by
  obtain ⟨v, hv, hr, hn, hb, hO, h1, h2⟩ := h
  refine ⟨v, (hm.keep _ hv.lt ((hO _).2 (.inl rfl))).trans hv, ⟨hr.1, ?_⟩, hn, hb.trans hm.below, hO, h1, h2⟩
  rcases hr.2 with h | ⟨g, cap, cur, rfl, hg, hh, r⟩
  · exact .inl h
  · exact .inr ⟨g, cap, cur, rfl, hg, (hm.keep _ (Array.getElem?_eq_some_iff.1 hh).1 ((hO _).2 (.inr rfl))).trans hh, r⟩
theorem ApB.lt {n0 Bs : Nat} {w0 : World} {pre : List UInt8} {O : Nat → Prop} {A : World} (h : ApB n0 Bs w0 pre O A) : n0 ≤ A.heap.size ∧ ∀ k, O k → k < A.heap.size := by
  obtain ⟨v, hv, hr, hn, hb, hO, h1, h2⟩ := h
  refine ⟨Nat.le_trans h2 hb.size, fun k hk => ?_⟩
  rcases (hO k).1 hk with rfl | hk
  · exact hv.lt
  · rcases hr.2 with ⟨rfl, _⟩ | ⟨g, cap, cur, rfl, hg, hh, r⟩
    · simp [Value.ownBlock] at hk
    · simp [Value.ownBlock] at hk; subst hk; exact (Array.getElem?_eq_some_iff.1 hh).1

set_option maxHeartbeats 2000000 in
set_option maxRecDepth 100000 in
theorem put_in (k : Nat) (hk : k ≤ 1073741824) (w : World) :
    CallsIn Fence.wide 6 Tryd.prog 40 #[.int .i64 k] w fun e w' => e = .returned (.string ⟨(groupsL k).toArray⟩) ∧ Below w.heap.size w w' := by
  have HR := Lib.hid (right_any (k : Int) w)
  rw [decide_eq_true (show 0 ≤ (k : Int) ∧ (k : Int) ≤ 1073741824 by omega)] at HR
  have hlen := groupsL_len k hk
  obtain ⟨i0, hi, hz0, hz1, hz2⟩ := info_parts info_u8
  have h1 : 1 ≤ 6 := by omega
  refine callsIn_of_wp_marks Tryd.func40 rfl trivial ?_ rfl
  simp only [Tryd.ntmps40, List.size_toArray, List.length_cons, List.length_nil, Nat.reduceAdd, Nat.reduceSub, Array.replicate_succ, Array.replicate_zero, List.push_toArray, List.append_toArray, List.nil_append, List.cons_append]
  gi_wp2
  refine ⟨trivial, (callsIn_wide.2 HR.out).mono ?_⟩
  rintro e w' ⟨rfl, rfl⟩
  gi_wp2
  refine ⟨trivial, (callsIn_wide.2 (groups_any _ _)).mono ?_⟩
  rintro e w' ⟨rfl, rfl⟩
  gi_wp2
  obtain ⟨W0, hW0⟩ : ∃ W0, (w.alloc (.cells #[.slice none 0 0] 44)).alloc (.cells #[.int .i64 k] 3) = W0 := ⟨_, rfl⟩
  have hb0 : Boxed W0 w.heap.size 44 (.slice none 0 0) := by rw [← hW0]; exact (Boxed.new _ _ _).alloc _
  have hb1 : Boxed W0 (w.heap.size + 1) 3 (.int .i64 k) := by rw [← hW0]; have := Boxed.new (w.alloc (.cells #[.slice none 0 0] 44)) 3 (.int .i64 k); simpa using this
  have hbl : Below w.heap.size w W0 := by rw [← hW0]; exact ((Below.refl _ _).alloc (Nat.le_refl _) _).alloc (by simp) _
  rw [hW0]
  refine wpIn_rangeFunc_sep rfl h1 (gf := 73) (lb := #[.pointer (some ⟨w.heap.size + 1, 0, none⟩)]) rfl trivial (enters_of Tryd.func73 (by kernel_rfl) rfl) (n0 := w.heap.size) (mine := fun b => b = w.heap.size + 1) (w0 := W0)
    (groups1_sep 5 (by omega) (w.heap.size + 1) w.heap.size k hk W0 hb1 (by omega)) (Moved.refl _ _ _) (fun b h => by subst h; exact hb1.lt) (fun _ => rfl)
    (ApB w.heap.size w.heap.size w) (fun _ _ _ => False) (fun pre O A B h hm => h.moved hm) (fun _ _ _ _ _ h => h.elim) (fun pre O A h => h.lt)
    (fun b => b = w.heap.size) (fun b h e => by omega)
    ⟨.slice none 0 0, hb0, ⟨rfl, .inl ⟨rfl, rfl⟩⟩, by simp, hbl, fun k => by simp [Value.ownBlock], Nat.le_refl _, Nat.le_refl _⟩
    (fun x => { tmps := #[.int .i64 k, undef, .string ⟨#[]⟩, .pointer (some ⟨w.heap.size, 0, none⟩), .int .u8 (x.toNat : Int), .int .i64 k, .bool true, .bool false, .int .i64 k, .func (.func 73) #[] #[.pointer (some ⟨w.heap.size + 1, 0, none⟩)], .int .u8 (x.toNat : Int), undef, undef, undef, undef, undef, undef], defers := [] }) ?assign ?body ?done ?stop
  case assign =>
    intro l x W K hK
    gi_wp2
    exact hK
  case body =>
    rintro l D pre O x W ⟨v, hv, hrow, hnil, hB, hO, hBs, hn0'⟩ hpre hl hD hl1 hD1
    have hc := hv.cell
    have hf := hv.frozen
    have HO := Lib.hid hO
    have HN := Lib.hid hnil
    have HP := Lib.hid hpre
    have hle : w.heap.size ≤ W.heap.size := hB.size
    have hplen : pre.length + 1 ≤ 5 := by
      obtain ⟨t, ht⟩ := hpre
      have := congrArg List.length ht
      simp at this; omega
    clear hO hnil hpre
    gi_wp2_with ((gi_at_builtin; refine wpListIn_append_lies _ rfl _ _ 44 rfl w.heap.size 5 i0 (.int .u8 0) 1 1 Tryd.underlying44 hi hz0 hz1 hz2 rfl (by decide) _ _ _ rfl (hrow.alloc _) ⟨W.heap.size, 0, none⟩ 1 1 [.int .u8 (x.toNat : Int)] rfl rfl (cell_one_new _ _ _) (by simp [Value.oneCell']) (by omega) (by unfold maxLen; omega) (by omega) (by have := hB.size; simp; omega) (W.heap.size + 1) (by simp) ?_; intro g' cap' w1 hown' hgrow hlies _; obtain ⟨hv1, hv2, hr2, hk2, hb2⟩ := hv.appended (by decide) hrow hle hBs hown' hgrow; have hc1 := hv1.cell; have hf1 := hv1.frozen))
    replace hlies : v.ownBlock = some g' ∨ g' = W.heap.size + 1 := hlies
    replace hgrow : (W.alloc (Obj.cells #[Value.int IntKind.u8 (x.toNat : Int)] 5)).grownBy w1 v.ownBlock := hgrow
    have hvb : ∀ k, v.ownBlock = some k → O k := fun k hk => (HO.out k).2 (.inr hk.symm)
    have hOs : O w.heap.size := (HO.out _).2 (.inl rfl)
    refine ⟨⟨hb2, fun k hk ho => ?_⟩, fun k => k = w.heap.size ∨ some k = some g', ?_, ⟨_, hv2, by simpa [byteV] using hr2, by simp, hB.trans hb2, fun k => by simp [Value.ownBlock], hBs, hn0'⟩⟩
    · rw [Below.heap_setCell _ _ _ k (fun e => ho (by rw [e]; exact hOs))]
      exact (hgrow.block k (by simp; omega) (fun e => ho (hvb k e.symm))).trans (Below.heap_alloc _ _ _ hk)
    · rintro k (rfl | h)
      · exact .inl hOs
      · obtain rfl : k = g' := by simpa using h
        rcases hlies with h | h
        · exact .inl (hvb _ h)
        · exact .inr (by omega)
  case done =>
    rintro D O W hle hD ⟨v, hv, hrow, hnil, hB, hO, hBs, hn0'⟩ hK
    have hc := hv.cell
    have hcv := own_string (w := W) (base := w.heap.size) (v := v) (l := groupsL k) hrow
    have HO := Lib.hid hO
    have HN := Lib.hid hnil
    clear hO hnil
    gi_wp2
    refine ⟨by simp, .inl ⟨_, _, rfl, run_takeDeferred hK, ?_⟩⟩
    exact ⟨_, results_tmp rfl _ _ _, rfl, hB.grown (grownBy_putObj' _ _ _) (by have := hB.size; omega) (fun k e => by cases e; have := hbl.size; omega)⟩
  case stop =>
    rintro D c pre W _ _ h _
    exact h.elim

set_option maxRecDepth 100000 in
theorem put_any (n : Int) (w : World) :
    Calls Tryd.prog 40 #[.int .i64 n] w fun e w' => e = .returned (.string ⟨(putM n).toArray⟩) ∧ Below w.heap.size w w' := by
  by_cases h : 0 ≤ n ∧ n ≤ 1073741824
  · obtain ⟨k, rfl⟩ : ∃ k : Nat, n = k := ⟨n.toNat, by omega⟩
    rw [putM, if_pos h, Int.toNat_natCast]
    exact callsIn_wide.1 (put_in k (by omega) w)
  · have HR := Lib.hid (right_any n w)
    rw [decide_eq_false h] at HR
    rw [putM, if_neg h]
    clear h
    go_enter Tryd.func40, Tryd.ntmps40
    go_wp2_with fail
    refine HR.out.mono ?_
    rintro e w' ⟨rfl, rfl⟩
    go_wp2_with fail
    go_ret
    exact ⟨rfl, Below.refl _ _⟩
end Go.Proofs.YtjmfdacnaodfdaaDoor

namespace Go.Proofs.YtjmfdacnaodfdaaDoor
set_option linter.unusedVariables false
set_option linter.unusedSimpArgs false
open Go.RowKit

theorem wrap64_id (x : Int) (h0 : -9223372036854775808 ≤ x) (h1 : x ≤ 9223372036854775807) : wrap64 x = x := by
  unfold wrap64
  omega
theorem wrap_nat (X : Nat) (h : X ≤ 34359738368) : wrap64 (X : Int) = X := wrap64_id _ (by omega) (by omega)
theorem wrap_sum (V X : Nat) (hv : V ≤ 268435456) (h : X ≤ 34359738368) : wrap64 ((V : Int) + X) = (V : Int) + X := wrap64_id _ (by omega) (by omega)
theorem wrap_unit (U : Nat) (h : U ≤ 268435456) : wrap64 ((U : Int) * 128) = (U : Int) * 128 := wrap64_id _ (by omega) (by omega)

theorem small_nat (V : Nat) (h : V ≤ 268435456) : wrap64 (V : Int) = V ∧ ¬ (1073741824 : Int) < V ∧ ¬ 1073741824 < V := ⟨wrap_nat V (by omega), by omega, by omega⟩
theorem unit_bd (k U : Nat) (hk : k < 5) (h : U = 128 ^ k) : U ≤ 268435456 := by
  subst h
  have h2 : 128 ^ k ≤ 128 ^ 4 := Nat.pow_le_pow_right (Nat.succ_pos _) (by omega)
  exact Nat.le_trans h2 (Nat.le_refl 268435456)
theorem prod_bd (a U : Nat) (hU : U ≤ 268435456) : a % 128 * U ≤ 34359738368 := by
  have h1 : a % 128 ≤ 128 := Nat.le_of_lt (Nat.mod_lt _ (by decide))
  exact Nat.le_trans (Nat.mul_le_mul h1 hU) (Nat.le_refl 34359738368)
theorem wrap_byte (c : UInt8) : wrap64 (c.toNat : Int) = c.toNat := wrap_nat _ (by have := c.toNat_lt; omega)

set_option maxHeartbeats 2000000 in
set_option maxRecDepth 100000 in
theorem rtake_any (s : ByteArray) (w : World) :
    Calls Tryd.prog 61 #[.string s] w fun e w' => e = .returned (.tuple #[.int .i64 (takeM s.data.toList).1, .int .i64 (takeM s.data.toList).2.1, .int .i64 (takeM s.data.toList).2.2]) ∧ w = w' := by
  obtain ⟨l, hl⟩ : ∃ l, s.data.toList = l := ⟨_, rfl⟩
  have hlen : l.length = s.size := by rw [← hl]; simp
  have HLE := Lib.hid hlen
  have HAT : Hid (∀ (k : Nat) (h : k < s.size) (h' : k < l.length), s[k]'h = l[k]'h') := Lib.hid (fun k h h' => by subst hl; rfl)
  obtain ⟨R, hR⟩ : ∃ R, takeM l = R := ⟨_, rfl⟩
  have HR := Lib.hid hR
  rw [hl, hR]
  clear hl hlen hR
  go_enter Tryd.func61, Tryd.ntmps61
  go_wp2_with fail
  go_loopg [5, 6, 7, 8] 5 (fun g t5 t6 t7 t8 wr => ∃ (k V U : Nat), Hid (g = 5 - k ∧ k ≤ 5 ∧ V = valM (l.take k) ∧ U = 128 ^ k ∧ HiTo l k) ∧ t7 = .int .i64 k ∧ t5 = .int .i64 V ∧ t6 = .int .i64 U ∧ w = wr)
  case atStart => exact ⟨0, 0, 1, ⟨rfl, Nat.zero_le _, rfl, rfl, HiTo.zero _⟩, rfl, rfl, rfl, rfl⟩
  case round =>
    obtain ⟨k, V, U, HN, rfl, rfl, rfl, rfl⟩ := hrel
    have hk0 : (0 : Int) ≤ k := by omega
    by_cases h5 : k < 5
    · have h5' : (k : Int) < 5 := by omega
      by_cases hks : k = s.size
      · subst hks
        have HF : Hid (R = (0, 0, 5)) := Lib.hid (by
          rw [← HR.out]
          refine take_short ?_ (by have := HLE.out; omega)
          rw [HLE.out]
          exact HN.out.2.2.2.2)
        go_wp2_with fail
        go_ret3
        rw [HF.out]
        exact ⟨rfl, rfl⟩
      · have hlt : k < s.size := by
          rcases Nat.lt_or_ge k s.size with h | h
          · exact h
          · exfalso
            obtain ⟨h1, _⟩ := HN.out.2.2.2.2 (k - 1) (by omega)
            have := HLE.out
            omega
        have hks' : ((k : Int) == (s.size : Int)) = false := by simp only [beq_eq_false_iff_ne, ne_eq]; omega
        have hlt' : (k : Int) < s.size := by omega
        have hkl : k < l.length := by rw [HLE.out]; exact hlt
        obtain ⟨c, hc⟩ : ∃ c, s[k]'hlt = c := ⟨_, rfl⟩
        have hcl : l[k]'hkl = c := by rw [← HAT.out k hlt hkl, hc]
        have hU : U ≤ 268435456 := unit_bd k U h5 HN.out.2.2.2.1
        have hV : V ≤ 268435456 := by
          have h1 := HN.out.2.2.1
          have h2 := valM_lt (l.take k)
          rw [List.length_take, Nat.min_eq_left (by omega), ← HN.out.2.2.2.1] at h2
          omega
        have hv1 := valM_take l k hkl
        rw [hcl, ← HN.out.2.2.1, ← HN.out.2.2.2.1] at hv1
        obtain ⟨X, hX⟩ : ∃ X : Nat, c.toNat % 128 * U = X := ⟨_, rfl⟩
        have hXb : X ≤ 34359738368 := by rw [← hX]; exact prod_bd _ _ hU
        have hwc := wrap_byte c
        rw [hX] at hv1
        have hX' : (c.toNat : Int) % 128 * (U : Int) = (X : Int) := by rw [← hX]; simp
        have hc0 : (0 : Int) ≤ c.toNat := by omega
        have hw1 := wrap_nat X hXb
        have hw2 := wrap_sum V X hV hXb
        have hw3 := wrap_unit U hU
        have HV1 := Lib.hid hv1
        have HVB := Lib.hid hV
        clear hv1 hX hks hU hV hXb
        by_cases hhi : 128 ≤ c.toNat
        · have hhi' : (128 : Int) ≤ c.toNat := by omega
          have HH : Hid (HiTo l (k + 1)) := Lib.hid (HN.out.2.2.2.2.succ hkl (by rw [hcl]; exact hhi))
          have HU : Hid (U * 128 = 128 ^ (k + 1)) := Lib.hid (by rw [Nat.pow_succ, HN.out.2.2.2.1])
          clear hkl hcl
          go_wp2_with fail
          go_roundg (5 - (k + 1))
          case rel => exact ⟨k + 1, V + X, U * 128, ⟨rfl, h5, HV1.out.symm, HU.out, HH.out⟩, by go_num, by rw [hw2]; rfl, by rw [hw3]; rfl, rfl⟩
          case measure => have := HN.out; omega
        · have hhi' : ¬ (128 : Int) ≤ c.toNat := by omega
          have hta := take_at HN.out.2.2.2.2 h5 hkl (by rw [hcl]; omega)
          rw [HR.out, hcl, HV1.out] at hta
          by_cases hz : c = 0 ∧ 0 < k
          · rw [if_pos hz] at hta
            obtain ⟨rfl, hkp⟩ := hz
            have hkp' : (0 : Int) < k := by omega
            have hcc : ((0 : UInt8).toNat : Int) = 0 := rfl
            obtain rfl : X = 0 := by rw [hcc] at hX'; omega
            clear hw1 hw2
            have HF := Lib.hid hta
            clear hta hkl hcl
            go_wp2_with fail
            go_ret3
            rw [HF.out]
            exact ⟨rfl, rfl⟩
          · rw [if_neg hz] at hta
            by_cases hbig : 1073741824 < V + X
            · rw [if_pos hbig] at hta
              have hbig' : (1073741824 : Int) < (V : Int) + X := by omega
              have HF := Lib.hid hta
              clear hta hkl hcl
              by_cases hcz : c = 0
              · have hkp : ¬ (0 : Int) < k := by
                  intro h
                  exact hz ⟨hcz, by omega⟩
                subst hcz
                have hcc : ((0 : UInt8).toNat : Int) = 0 := rfl
                exfalso
                have : X = 0 := by rw [hcc] at hX'; omega
                have := HVB.out
                omega
              · have hcz' : (0 : Int) < c.toNat := by
                  have h : c.toNat ≠ 0 := fun h => hcz (UInt8.toNat_inj.1 h)
                  omega
                have hcz2 : 0 < c.toNat := by omega
                clear hz
                go_wp2_with fail
                go_ret3
                rw [HF.out]
                exact ⟨rfl, rfl⟩
            · rw [if_neg hbig] at hta
              have hbig' : ¬ (1073741824 : Int) < (V : Int) + X := by omega
              have HF := Lib.hid hta
              clear hta hkl hcl
              by_cases hcz : c = 0
              · have hkp : ¬ (0 : Int) < k := by
                  intro h
                  exact hz ⟨hcz, by omega⟩
                subst hcz
                have hcc : ((0 : UInt8).toNat : Int) = 0 := rfl
                obtain rfl : X = 0 := by rw [hcc] at hX'; omega
                obtain ⟨hVw, hbig2, hbig3⟩ := small_nat V HVB.out
                clear hz hX' hw1 hw2 hbig hbig'
                go_wp2_with fail
                go_ret3
                rw [HF.out]
                exact ⟨rfl, rfl⟩
              · have hcz' : (0 : Int) < c.toNat := by
                  have h : c.toNat ≠ 0 := fun h => hcz (UInt8.toNat_inj.1 h)
                  omega
                have hcz2 : 0 < c.toNat := by omega
                clear hz
                go_wp2_with fail
                go_ret3
                rw [HF.out]
                exact ⟨rfl, rfl⟩
    · have h5' : ¬ (k : Int) < 5 := by omega
      have HF : Hid (R = (0, 0, 2)) := Lib.hid (by
        rw [← HR.out]
        have hk : k = 5 := by have := HN.out; omega
        exact take_long (hk ▸ HN.out.2.2.2.2))
      go_wp2_with fail
      go_ret3
      rw [HF.out]
      exact ⟨rfl, rfl⟩
end Go.Proofs.YtjmfdacnaodfdaaDoor

namespace Go.Proofs.YtjmfdacnaodfdaaDoor
set_option linter.unusedVariables false
set_option linter.unusedSimpArgs false
open Go.RowKit

def endI (l : List UInt8) : Int := match endM l 5 with | some i => (i : Int) | none => -1

set_option maxHeartbeats 2000000 in
set_option maxRecDepth 100000 in
theorem end_any (s : ByteArray) (w : World) :
    Calls Tryd.prog 76 #[.string s] w fun e w' => e = .returned (.int .i64 (endI s.data.toList)) ∧ w = w' := by
  obtain ⟨l, hl⟩ : ∃ l, s.data.toList = l := ⟨_, rfl⟩
  have hlen : l.length = s.size := by rw [← hl]; simp
  have HLE := Lib.hid hlen
  have HAT : Hid (∀ (k : Nat) (h : k < s.size) (h' : k < l.length), s[k]'h = l[k]'h') := Lib.hid (fun k h h' => by subst hl; rfl)
  obtain ⟨R, hR⟩ : ∃ R, endI l = R := ⟨_, rfl⟩
  have HR := Lib.hid hR
  rw [hl, hR]
  clear hl hlen hR
  by_cases h5 : 5 < s.size
  · have h5' : (5 : Int) < s.size := by omega
    go_enter Tryd.func76, Tryd.ntmps76
    go_wp2_with fail
    go_loopg [3, 7] 5 (fun g t3 t7 wr => ∃ k : Nat, Hid (g = 5 - k ∧ k ≤ 5 ∧ HiTo l k) ∧ t7 = .int .i64 k ∧ w = wr)
    case atStart => exact ⟨0, ⟨rfl, Nat.zero_le _, HiTo.zero _⟩, rfl, rfl⟩
    case round =>
      obtain ⟨k, HN, rfl, rfl⟩ := hrel
      have hk0 : (0 : Int) ≤ k := by omega
      by_cases hkM : k < 5
      · have hkM' : (k : Int) < 5 := by omega
        have hlt : k < s.size := by omega
        have hlt' : (k : Int) < s.size := by omega
        have hkl : k < l.length := by rw [HLE.out]; exact hlt
        obtain ⟨c, hc⟩ : ∃ c, s[k]'hlt = c := ⟨_, rfl⟩
        have hcl : l[k]'hkl = c := by rw [← HAT.out k hlt hkl, hc]
        by_cases hhi : c.toNat < 128
        · have hhi' : (c.toNat : Int) < 128 := by omega
          have HF : Hid (R = (k : Int)) := Lib.hid (by
            rw [← HR.out, endI, endM_some l 5 k (by omega) HN.out.2.2 hkl (by rw [hcl]; exact hhi)])
          clear hkl hcl
          go_wp2_with fail
          go_ret
          rw [HF.out]
          exact ⟨rfl, rfl⟩
        · have hhi' : ¬ (c.toNat : Int) < 128 := by omega
          have HH : Hid (HiTo l (k + 1)) := Lib.hid (HN.out.2.2.succ hkl (by rw [hcl]; omega))
          clear hkl hcl
          go_wp2_with fail
          go_roundg (5 - (k + 1))
          case rel => exact ⟨k + 1, ⟨rfl, hkM, HH.out⟩, by go_num, rfl⟩
          case measure => have := HN.out; omega
      · have hkM' : ¬ (k : Int) < 5 := by omega
        have HF : Hid (R = -1) := Lib.hid (by
          rw [← HR.out, endI, endM_none l 5 (fun j hj h => (HN.out.2.2 j (by have := HLE.out; omega)).2)])
        go_wp2_with fail
        go_ret
        rw [HF.out]
        exact ⟨rfl, rfl⟩
  · have h5' : ¬ (5 : Int) < s.size := by omega
    go_enter Tryd.func76, Tryd.ntmps76
    go_wp2_with fail
    go_loopg [3, 7] s.size (fun g t3 t7 wr => ∃ k : Nat, Hid (g = s.size - k ∧ k ≤ s.size ∧ HiTo l k) ∧ t7 = .int .i64 k ∧ w = wr)
    case atStart => exact ⟨0, ⟨rfl, Nat.zero_le _, HiTo.zero _⟩, rfl, rfl⟩
    case round =>
      obtain ⟨k, HN, rfl, rfl⟩ := hrel
      have hk0 : (0 : Int) ≤ k := by omega
      by_cases hkM : k < s.size
      · have hkM' : (k : Int) < s.size := by omega
        have hlt : k < s.size := by omega
        have hlt' : (k : Int) < s.size := by omega
        have hkl : k < l.length := by rw [HLE.out]; exact hlt
        obtain ⟨c, hc⟩ : ∃ c, s[k]'hlt = c := ⟨_, rfl⟩
        have hcl : l[k]'hkl = c := by rw [← HAT.out k hlt hkl, hc]
        by_cases hhi : c.toNat < 128
        · have hhi' : (c.toNat : Int) < 128 := by omega
          have HF : Hid (R = (k : Int)) := Lib.hid (by
            rw [← HR.out, endI, endM_some l 5 k (by omega) HN.out.2.2 hkl (by rw [hcl]; exact hhi)])
          clear hkl hcl
          go_wp2_with fail
          go_ret
          rw [HF.out]
          exact ⟨rfl, rfl⟩
        · have hhi' : ¬ (c.toNat : Int) < 128 := by omega
          have HH : Hid (HiTo l (k + 1)) := Lib.hid (HN.out.2.2.succ hkl (by rw [hcl]; omega))
          clear hkl hcl
          go_wp2_with fail
          go_roundg (s.size - (k + 1))
          case rel => exact ⟨k + 1, ⟨rfl, hkM, HH.out⟩, by go_num, rfl⟩
          case measure => have := HN.out; omega
      · have hkM' : ¬ (k : Int) < s.size := by omega
        have HF : Hid (R = -1) := Lib.hid (by
          rw [← HR.out, endI, endM_none l 5 (fun j hj h => (HN.out.2.2 j (by have := HLE.out; omega)).2)])
        go_wp2_with fail
        go_ret
        rw [HF.out]
        exact ⟨rfl, rfl⟩

theorem bits_or_low (n r : Nat) (hn : n < 268435456) (hr : r < 128) : bits BinOp.or IntKind.i64 ((n : Int) * 128) (r : Int) = ((n * 128 + r : Nat) : Int) := by
  have h1 : BitVec.ofInt 64 ((n : Int) * 128) = BitVec.ofNat 64 (n * 128) := by
    rw [show (n : Int) * 128 = ((n * 128 : Nat) : Int) by simp, BitVec.ofInt_natCast]
  have h2 : BitVec.ofInt 64 (r : Int) = BitVec.ofNat 64 r := BitVec.ofInt_natCast ..
  have h3 : n * 128 ||| r = n * 128 + r := by
    have := Nat.shiftLeft_add_eq_or_of_lt (i := 7) (show r < 2 ^ 7 by simpa using hr) n
    rw [Nat.shiftLeft_eq] at this
    exact this.symm
  change IntKind.i64.wrap (((BitVec.ofInt 64 ((n : Int) * 128) ||| BitVec.ofInt 64 (r : Int)).toNat : Nat) : Int) = _
  rw [h1, h2, BitVec.toNat_or, BitVec.toNat_ofNat, BitVec.toNat_ofNat, Nat.mod_eq_of_lt (by omega), Nat.mod_eq_of_lt (by omega), h3]
  unfold IntKind.wrap
  simp [IntKind.signed, IntKind.bits]
  omega
end Go.Proofs.YtjmfdacnaodfdaaDoor

namespace Go.Proofs.YtjmfdacnaodfdaaDoor
set_option linter.unusedVariables false
set_option linter.unusedSimpArgs false
open Go.RowKit

theorem endM_lt : ∀ (l : List UInt8) (k i : Nat), endM l k = some i → i < k ∧ i < l.length
  | [], 0, i, h => by cases h
  | [], k + 1, i, h => by cases h
  | c :: l, 0, i, h => by cases h
  | c :: l, k + 1, i, h => by
    unfold endM at h
    split at h
    · cases h; simp
    · obtain ⟨j, hj, e⟩ := Option.map_eq_some_iff.1 h
      have := endM_lt l k j hj
      simp
      omega
theorem val_step (L : List UInt8) (q : Nat) (h : q < L.length) : valM (L.drop q) = valM (L.drop (q + 1)) * 128 + L[q].toNat % 128 := by
  rw [List.drop_eq_getElem_cons h]
  simp only [valM]
  omega
theorem val_bd (l : List UInt8) (k q : Nat) (hk : k < 5) : valM ((l.take (k + 1)).drop (q + 1)) < 268435456 := by
  have h1 := valM_lt ((l.take (k + 1)).drop (q + 1))
  have h2 : ((l.take (k + 1)).drop (q + 1)).length ≤ 4 := by
    rw [List.length_drop, List.length_take]
    omega
  have h3 : 128 ^ ((l.take (k + 1)).drop (q + 1)).length ≤ 128 ^ 4 := Nat.pow_le_pow_right (Nat.succ_pos _) h2
  exact Nat.lt_of_lt_of_le h1 (Nat.le_trans h3 (Nat.le_refl 268435456))
theorem low_facts (c : UInt8) : (0 : Int) ≤ (c.toNat : Int) % 128 ∧ wrap64 ((c.toNat : Int) % 128) = (c.toNat : Int) % 128 ∧ (c.toNat : Int) % 128 = ((c.toNat % 128 : Nat) : Int) :=
  ⟨by omega, wrap64_id _ (by omega) (by omega), by omega⟩
theorem shl_facts (V : Nat) (h : V < 268435456) : wrap64 ((V : Int) * 128) = (V : Int) * 128 := wrap64_id _ (by omega) (by omega)
theorem or_fact2 (V r : Nat) (h : V < 268435456) (hr : r < 128) : bits BinOp.or IntKind.i64 ((V : Int) * 128) (r : Int) = (V : Int) * 128 + (r : Int) := by
  rw [bits_or_low V r h hr]
  omega
theorem sub_zero' : wrap64 (((0 : Nat) : Int) - 1) = -1 := by
  rw [wrap64_id _ (by omega) (by omega)]
  rfl
theorem sub_succ' (p : Nat) (h : p < 5) : wrap64 (((p + 1 : Nat) : Int) - 1) = (p : Int) := by
  rw [wrap64_id _ (by omega) (by omega)]
  omega
theorem k1_fact (k : Nat) (h : k < 5) : wrap64 ((k : Int) + 1) = (k : Int) + 1 := wrap64_id _ (by omega) (by omega)
theorem or_fact (V : Nat) (c : UInt8) (h : V < 268435456) : bits BinOp.or IntKind.i64 ((V : Int) * 128) ((c.toNat : Int) % 128) = (V : Int) * 128 + (c.toNat : Int) % 128 := by
  have := bits_or_low V _ h (Nat.mod_lt c.toNat (by decide : 0 < 128))
  rw [← (low_facts c).2.2] at this
  rw [this]
  omega

set_option maxHeartbeats 2000000 in
set_option maxRecDepth 100000 in
theorem ctake_any (s : ByteArray) (w : World) :
    Calls Tryd.prog 68 #[.string s] w fun e w' => e = .returned (.tuple #[.int .i64 (takeM s.data.toList).1, .int .i64 (takeM s.data.toList).2.1, .int .i64 (takeM s.data.toList).2.2]) ∧ w = w' := by
  have HE := Lib.hid (end_any s w)
  obtain ⟨l, hl⟩ : ∃ l, s.data.toList = l := ⟨_, rfl⟩
  have hlen : l.length = s.size := by rw [← hl]; simp
  have HLE := Lib.hid hlen
  have HAT : Hid (∀ (k : Nat) (h : k < s.size) (h' : k < l.length), s[k]'h = l[k]'h') := Lib.hid (fun k h h' => by subst hl; rfl)
  obtain ⟨R, hR⟩ : ∃ R, takeM l = R := ⟨_, rfl⟩
  rw [hl] at HE
  rw [hl, hR]
  cases he : endM l 5 with
  | none =>
    have hi : endI l = -1 := by rw [endI, he]
    rw [hi] at HE
    unfold takeM at hR
    rw [he] at hR
    simp only at hR
    by_cases h5 : s.size < 5
    · have h5' : (s.size : Int) < 5 := by omega
      rw [if_pos (by omega)] at hR
      have HF := Lib.hid hR.symm
      clear hl hlen hR he hi
      go_enter Tryd.func68, Tryd.ntmps68
      go_wp2_with fail
      refine HE.out.mono ?_
      rintro e w' ⟨rfl, rfl⟩
      go_wp2_with fail
      go_ret3
      rw [HF.out]
      exact ⟨rfl, rfl⟩
    · have h5' : ¬ (s.size : Int) < 5 := by omega
      rw [if_neg (by omega)] at hR
      have HF := Lib.hid hR.symm
      clear hl hlen hR he hi
      go_enter Tryd.func68, Tryd.ntmps68
      go_wp2_with fail
      refine HE.out.mono ?_
      rintro e w' ⟨rfl, rfl⟩
      go_wp2_with fail
      go_ret3
      rw [HF.out]
      exact ⟨rfl, rfl⟩
  | some k =>
    obtain ⟨hk5, hkl⟩ := endM_lt l 5 k he
    have hi : endI l = (k : Int) := by rw [endI, he]
    rw [hi] at HE
    have hks : k < s.size := by omega
    have hks' : (k : Int) < s.size := by omega
    have hk0 : (0 : Int) ≤ k := by omega
    have hkn : ¬ (k : Int) < 0 := by omega
    obtain ⟨c, hc⟩ : ∃ c, s[k]'hks = c := ⟨_, rfl⟩
    have hcl : l[k]'hkl = c := by rw [← HAT.out k hks hkl, hc]
    obtain ⟨T, hT⟩ : ∃ T, valM (l.take (k + 1)) = T := ⟨_, rfl⟩
    have hR2 : (if c = 0 ∧ 0 < k then (0, 0, 7) else if 1073741824 < T then (0, 0, 2) else ((T : Int), (k : Int) + 1, 0)) = R := by
      rw [← hR, ← hT, ← hcl]
      unfold takeM
      rw [he]
      simp only [List.getD_eq_getElem?_getD, List.getElem?_eq_getElem hkl, Option.getD_some]
    by_cases hz : c = 0 ∧ 0 < k
    · rw [if_pos hz] at hR2
      obtain ⟨rfl, hkp⟩ := hz
      have hkp' : (0 : Int) < k := by omega
      have hcc : ((0 : UInt8).toNat : Int) = 0 := rfl
      have HF := Lib.hid hR2.symm
      clear hl hlen hR hR2 he hi hcl hkl
      go_enter Tryd.func68, Tryd.ntmps68
      go_wp2_with fail
      refine HE.out.mono ?_
      rintro e w' ⟨rfl, rfl⟩
      go_wp2_with fail
      go_ret3
      rw [HF.out]
      exact ⟨rfl, rfl⟩
    · rw [if_neg hz] at hR2
      have HR2 := Lib.hid hR2
      have HK5 := Lib.hid hk5
      have HKL := Lib.hid hkl
      have HT := Lib.hid hT
      have hzz : (c.toNat = 0 ∧ ¬ 0 < k) ∨ 0 < c.toNat := by
        rcases Nat.eq_zero_or_pos c.toNat with h | h
        · exact .inl ⟨h, fun h2 => hz ⟨UInt8.toNat_inj.1 h, h2⟩⟩
        · exact .inr h
      clear hl hlen hR hR2 he hi hcl hkl hz hk5 hT
      have HRT := Lib.hid (right_any (T : Int) w)
      go_enter Tryd.func68, Tryd.ntmps68
      go_wp2_with fail
      refine HE.out.mono ?_
      rintro e w' ⟨rfl, rfl⟩
      rcases hzz with ⟨hz1, hz2⟩ | hz1
      · have hz2' : ¬ (0 : Int) < k := by omega
        obtain rfl : c = 0 := UInt8.toNat_inj.1 hz1
        have hcc : ((0 : UInt8).toNat : Int) = 0 := rfl
        clear hz1
        go_wp2_with fail
        go_loopg [6, 7] (k + 1) (fun g t6 t7 wr => ∃ V : Nat, t6 = .int .i64 V ∧ w = wr ∧ ((∃ q : Nat, Hid (g = q + 1 ∧ q ≤ k) ∧ t7 = .int .i64 q ∧ Hid (V = valM ((l.take (k + 1)).drop (q + 1)))) ∨ (t7 = .int .i64 (-1) ∧ Hid (V = T))))
        case atStart => exact ⟨0, rfl, rfl, .inl ⟨k, ⟨rfl, Nat.le_refl _⟩, rfl, by rw [List.drop_eq_nil_of_le (by rw [List.length_take]; exact Nat.min_le_left _ _)]; rfl⟩⟩
        case round =>
          obtain ⟨V, rfl, rfl, ⟨q, HQ, rfl, HV⟩ | ⟨rfl, HV⟩⟩ := hrel
          · have hq0 : (0 : Int) ≤ q := by omega
            have hqs : q < s.size := by have := HQ.out; omega
            have hqs' : (q : Int) < s.size := by omega
            have hql : q < (l.take (k + 1)).length := by
              rw [List.length_take]
              have := HQ.out
              have := HKL.out
              omega
            obtain ⟨d, hd⟩ : ∃ d, s[q]'hqs = d := ⟨_, rfl⟩
            have hdl : (l.take (k + 1))[q]'hql = d := by
              rw [List.getElem_take, ← HAT.out q hqs (by have := HLE.out; omega), hd]
            have hst := val_step (l.take (k + 1)) q hql
            rw [hdl, ← HV.out] at hst
            have hVb : V < 268435456 := by rw [HV.out]; exact val_bd l k q HK5.out
            obtain ⟨r, hr⟩ : ∃ r : Nat, d.toNat % 128 = r := ⟨_, rfl⟩
            have hr128 : r < 128 := by rw [← hr]; exact Nat.mod_lt _ (Nat.succ_pos _)
            rw [hr] at hst
            have hr' : (d.toNat : Int) % 128 = (r : Int) := by rw [← hr]; simp
            have hor := or_fact2 V r hVb hr128
            have hwr := wrap_nat r (Nat.le_trans (Nat.le_of_lt hr128) (by decide))
            clear hr hr128
            have hsh := shl_facts V hVb
            have HSTP := Lib.hid hst
            clear hql hdl hst hVb
            go_wp2_with fail
            go_roundg q
            case rel =>
              refine ⟨V * 128 + r, by go_num, rfl, ?_⟩
              rcases Nat.eq_zero_or_pos q with h | h
              · subst h
                exact .inr ⟨congrArg (Value.int .i64) sub_zero', Lib.hid (by rw [← HSTP.out, List.drop_zero, HT.out])⟩
              · obtain ⟨p, rfl⟩ : ∃ p, q = p + 1 := ⟨q - 1, by omega⟩
                exact .inl ⟨p, ⟨rfl, by have := HQ.out; omega⟩, congrArg (Value.int .i64) (sub_succ' p (by have := HQ.out; have := HK5.out; omega)), Lib.hid HSTP.out.symm⟩
            case measure => have := HQ.out; omega
          · obtain rfl : V = T := HV.out
            by_cases hb : 1073741824 < V
            · have HF := Lib.hid HR2.out.symm
              rw [if_pos hb] at HF
              rw [decide_eq_false (show ¬ (0 ≤ (V : Int) ∧ (V : Int) ≤ 1073741824) by omega)] at HRT
              clear hb
              go_wp2_with fail
              refine HRT.out.mono ?_
              rintro e w' ⟨rfl, rfl⟩
              go_wp2_with fail
              go_ret3
              rw [HF.out]
              exact ⟨rfl, rfl⟩
            · have HF := Lib.hid HR2.out.symm
              rw [if_neg hb] at HF
              have HEQ : Hid (Ending.returned (.tuple #[.int .i64 (V : Int), .int .i64 (wrap64 ((k : Int) + 1)), .int .i64 0]) = Ending.returned (.tuple #[.int .i64 (V : Int), .int .i64 ((k : Int) + 1), .int .i64 0])) := Lib.hid (by rw [k1_fact k HK5.out])
              rw [decide_eq_true (show 0 ≤ (V : Int) ∧ (V : Int) ≤ 1073741824 by omega)] at HRT
              clear hb
              go_wp2_with fail
              refine HRT.out.mono ?_
              rintro e w' ⟨rfl, rfl⟩
              go_wp2_with fail
              go_ret3
              rw [HF.out]
              first | exact ⟨rfl, rfl⟩ | exact ⟨HEQ.out, rfl⟩
      · have hz1' : (0 : Int) < c.toNat := by omega
        go_wp2_with fail
        go_loopg [6, 7] (k + 1) (fun g t6 t7 wr => ∃ V : Nat, t6 = .int .i64 V ∧ w = wr ∧ ((∃ q : Nat, Hid (g = q + 1 ∧ q ≤ k) ∧ t7 = .int .i64 q ∧ Hid (V = valM ((l.take (k + 1)).drop (q + 1)))) ∨ (t7 = .int .i64 (-1) ∧ Hid (V = T))))
        case atStart => exact ⟨0, rfl, rfl, .inl ⟨k, ⟨rfl, Nat.le_refl _⟩, rfl, by rw [List.drop_eq_nil_of_le (by rw [List.length_take]; exact Nat.min_le_left _ _)]; rfl⟩⟩
        case round =>
          obtain ⟨V, rfl, rfl, ⟨q, HQ, rfl, HV⟩ | ⟨rfl, HV⟩⟩ := hrel
          · have hq0 : (0 : Int) ≤ q := by omega
            have hqs : q < s.size := by have := HQ.out; omega
            have hqs' : (q : Int) < s.size := by omega
            have hql : q < (l.take (k + 1)).length := by
              rw [List.length_take]
              have := HQ.out
              have := HKL.out
              omega
            obtain ⟨d, hd⟩ : ∃ d, s[q]'hqs = d := ⟨_, rfl⟩
            have hdl : (l.take (k + 1))[q]'hql = d := by
              rw [List.getElem_take, ← HAT.out q hqs (by have := HLE.out; omega), hd]
            have hst := val_step (l.take (k + 1)) q hql
            rw [hdl, ← HV.out] at hst
            have hVb : V < 268435456 := by rw [HV.out]; exact val_bd l k q HK5.out
            obtain ⟨r, hr⟩ : ∃ r : Nat, d.toNat % 128 = r := ⟨_, rfl⟩
            have hr128 : r < 128 := by rw [← hr]; exact Nat.mod_lt _ (Nat.succ_pos _)
            rw [hr] at hst
            have hr' : (d.toNat : Int) % 128 = (r : Int) := by rw [← hr]; simp
            have hor := or_fact2 V r hVb hr128
            have hwr := wrap_nat r (Nat.le_trans (Nat.le_of_lt hr128) (by decide))
            clear hr hr128
            have hsh := shl_facts V hVb
            have HSTP := Lib.hid hst
            clear hql hdl hst hVb
            go_wp2_with fail
            go_roundg q
            case rel =>
              refine ⟨V * 128 + r, by go_num, rfl, ?_⟩
              rcases Nat.eq_zero_or_pos q with h | h
              · subst h
                exact .inr ⟨congrArg (Value.int .i64) sub_zero', Lib.hid (by rw [← HSTP.out, List.drop_zero, HT.out])⟩
              · obtain ⟨p, rfl⟩ : ∃ p, q = p + 1 := ⟨q - 1, by omega⟩
                exact .inl ⟨p, ⟨rfl, by have := HQ.out; omega⟩, congrArg (Value.int .i64) (sub_succ' p (by have := HQ.out; have := HK5.out; omega)), Lib.hid HSTP.out.symm⟩
            case measure => have := HQ.out; omega
          · obtain rfl : V = T := HV.out
            by_cases hb : 1073741824 < V
            · have HF := Lib.hid HR2.out.symm
              rw [if_pos hb] at HF
              rw [decide_eq_false (show ¬ (0 ≤ (V : Int) ∧ (V : Int) ≤ 1073741824) by omega)] at HRT
              clear hb
              go_wp2_with fail
              refine HRT.out.mono ?_
              rintro e w' ⟨rfl, rfl⟩
              go_wp2_with fail
              go_ret3
              rw [HF.out]
              exact ⟨rfl, rfl⟩
            · have HF := Lib.hid HR2.out.symm
              rw [if_neg hb] at HF
              have HEQ : Hid (Ending.returned (.tuple #[.int .i64 (V : Int), .int .i64 (wrap64 ((k : Int) + 1)), .int .i64 0]) = Ending.returned (.tuple #[.int .i64 (V : Int), .int .i64 ((k : Int) + 1), .int .i64 0])) := Lib.hid (by rw [k1_fact k HK5.out])
              rw [decide_eq_true (show 0 ≤ (V : Int) ∧ (V : Int) ≤ 1073741824 by omega)] at HRT
              clear hb
              go_wp2_with fail
              refine HRT.out.mono ?_
              rintro e w' ⟨rfl, rfl⟩
              go_wp2_with fail
              go_ret3
              rw [HF.out]
              first | exact ⟨rfl, rfl⟩ | exact ⟨HEQ.out, rfl⟩
end Go.Proofs.YtjmfdacnaodfdaaDoor

namespace Go.Proofs.YtjmfdacnaodfdaaDoor
set_option linter.unusedVariables false
set_option linter.unusedSimpArgs false
open Go.RowKit

/-- What was put, and what is wrong, at block b. -/
def WAt (w : World) (b : Nat) (S : ByteArray) (e : Int) : Prop := w.heap[b]? = some (.cells #[.string S, .int .i64 e] 54 (0, 0))
/-- What was there is as it was, but for block b. -/
structure KeptBut (b : Nat) (w w' : World) : Prop where
  os : w'.os = w.os
  tape : w'.tape = w.tape
  output : w'.output = w.output
  size : w.heap.size ≤ w'.heap.size
  block : ∀ k, k < w.heap.size → k ≠ b → w'.heap[k]? = w.heap[k]?
theorem KeptBut.refl (b : Nat) (w : World) : KeptBut b w w := ⟨rfl, rfl, rfl, Nat.le_refl _, fun _ _ _ => rfl⟩
theorem KeptBut.trans {b : Nat} {w1 w2 w3 : World} (h : KeptBut b w1 w2) (k : KeptBut b w2 w3) : KeptBut b w1 w3 :=
  ⟨k.os.trans h.os, k.tape.trans h.tape, k.output.trans h.output, Nat.le_trans h.size k.size, fun i hi hne => (k.block i (Nat.lt_of_lt_of_le hi h.size) hne).trans (h.block i hi hne)⟩
theorem KeptBut.set (b i : Nat) (w : World) (v : Value) : KeptBut b w (w.setCell ⟨b, i, none⟩ v) :=
  ⟨rfl, rfl, rfl, by simp, fun k hk hne => Go.heap_setCell_other _ _ _ _ hne⟩
theorem WAt.set0 {w : World} {b : Nat} {S : ByteArray} {e : Int} (h : WAt w b S e) (T : ByteArray) : WAt (w.setCell ⟨b, 0, none⟩ (.string T)) b T e := by
  unfold WAt
  rw [Go.Joins.block_setCell h]
  rfl
theorem WAt.set1 {w : World} {b : Nat} {S : ByteArray} {e : Int} (h : WAt w b S e) (f : Int) : WAt (w.setCell ⟨b, 1, none⟩ (.int .i64 f)) b S f := by
  unfold WAt
  rw [Go.Joins.block_setCell h]
  rfl

theorem wfail_any (b : Nat) (S : ByteArray) (e f : Int) (w : World) (h : WAt w b S e) :
    Calls Tryd.prog 21 #[.pointer (some ⟨b, 0, none⟩), .int .i64 f] w fun v w' => v = .returned (.tuple #[]) ∧ WAt w' b S (if e = 0 then f else e) ∧ KeptBut b w w' := by
  have c1 := Lib.cell_of_heap h 1
  have z1 := Lib.frozen_of_heap h 1
  have HW := Lib.hid h
  by_cases he : e = 0
  · subst he
    rw [if_pos rfl]
    clear h
    go_enter Tryd.func21, Tryd.ntmps21
    go_wp2_with fail
    go_end0
    exact ⟨rfl, HW.out.set1 f, KeptBut.set _ _ _ _⟩
  · rw [if_neg he]
    have he2 : (e == 0) = false := by simpa using he
    clear h he
    go_enter Tryd.func21, Tryd.ntmps21
    go_wp2_with fail
    go_end0
    exact ⟨rfl, HW.out, KeptBut.refl _ _⟩

/-- What a writer holds behind some more bytes. -/
def wputS (S : ByteArray) (e : Int) (is : Bool) (s : ByteArray) : ByteArray := if e = 0 ∧ is = true then S ++ s else S
def wputE (e : Int) (is : Bool) : Int := if e = 0 ∧ is = false then 2 else e
theorem wput_any (b : Nat) (S s : ByteArray) (e : Int) (is : Bool) (hS : S.size + s.size ≤ 1000000000000) (w : World) (h : WAt w b S e) :
    Calls Tryd.prog 45 #[.pointer (some ⟨b, 0, none⟩), .bool is, .string s] w fun v w' => v = .returned (.tuple #[]) ∧ WAt w' b (wputS S e is s) (wputE e is) ∧ KeptBut b w w' := by
  have c0 := Lib.cell_of_heap h 0
  have z0 := Lib.frozen_of_heap h 0
  have c1 := Lib.cell_of_heap h 1
  have z1 := Lib.frozen_of_heap h 1
  have HW := Lib.hid h
  by_cases he : e = 0
  · subst he
    clear h
    cases is with
    | true =>
      have e1 : wputS S 0 true s = S ++ s := by simp [wputS]
      have e2 : wputE 0 true = 0 := by simp [wputE]
      rw [e1, e2]
      have HS : Hid (∀ T, S ++ s = T → WAt (w.setCell ⟨b, 0, none⟩ (.string T)) b T 0) := Lib.hid fun T _ => HW.out.set0 T
      have hsz : ¬ 9223372036854775807 < S.size + s.size := by omega
      clear e1 e2 hS
      go_enter Tryd.func45, Tryd.ntmps45
      go_wp2_with fail
      go_end0
      exact ⟨rfl, HS.out _ rfl, KeptBut.set _ _ _ _⟩
    | false =>
      have e1 : wputS S 0 false s = S := by simp [wputS]
      have e2 : wputE 0 false = 2 := by simp [wputE]
      rw [e1, e2]
      clear e1 e2 hS
      go_enter Tryd.func45, Tryd.ntmps45
      go_wp2_with fail
      go_end0
      exact ⟨rfl, HW.out.set1 2, KeptBut.set _ _ _ _⟩
  · have he2 : (e == 0) = false := by simpa using he
    have he3 : (e != 0) = true := by simpa using he
    have e1 : wputS S e is s = S := by simp [wputS, he]
    have e2 : wputE e is = e := by simp [wputE, he]
    rw [e1, e2]
    clear h he e1 e2 hS
    go_enter Tryd.func45, Tryd.ntmps45
    go_wp2_with fail
    refine bodyPost_ret (v := .tuple #[]) (results_none rfl _ _ _) rfl ?_
    exact ⟨rfl, HW.out, KeptBut.refl _ _⟩

theorem wdone_any (b : Nat) (S : ByteArray) (e : Int) (w : World) (h : WAt w b S e) :
    Calls Tryd.prog 24 #[.pointer (some ⟨b, 0, none⟩)] w fun v w' => v = .returned (.tuple #[.string (if e = 0 then S else ⟨#[]⟩), .int .i64 e]) ∧ Below w.heap.size w w' := by
  have c0 := Lib.cell_of_heap h 0
  have c1 := Lib.cell_of_heap h 1
  by_cases he : e = 0
  · subst he
    rw [if_pos rfl]
    clear h
    go_enter Tryd.func24, Tryd.ntmps24
    go_wp2_with fail
    go_ret2
    exact ⟨rfl, Below.refl _ _⟩
  · rw [if_neg he]
    have he2 : (e == 0) = false := by simpa using he
    have he3 : (e != 0) = true := by simpa using he
    clear h he
    go_enter Tryd.func24, Tryd.ntmps24
    go_wp2_with fail
    go_quiet (fail)
    go_wp2_with fail
    go_ret2
    exact ⟨rfl, ⟨rfl, rfl, rfl, Nat.le_refl _, fun _ _ => rfl⟩⟩
end Go.Proofs.YtjmfdacnaodfdaaDoor

namespace Go.Proofs.YtjmfdacnaodfdaaDoor
set_option linter.unusedVariables false
set_option linter.unusedSimpArgs false
open Go.RowKit

/-- What is left, and what is wrong, at block b (T: whose reader). -/
def RAt (T : TypeId) (w : World) (b : Nat) (S : ByteArray) (e : Int) : Prop := w.heap[b]? = some (.cells #[.string S, .int .i64 e] T (0, 0))
theorem RAt.set0 {T : TypeId} {w : World} {b : Nat} {S : ByteArray} {e : Int} (h : RAt T w b S e) (S' : ByteArray) : RAt T (w.setCell ⟨b, 0, none⟩ (.string S')) b S' e := by
  unfold RAt
  rw [Go.Joins.block_setCell h]
  rfl
theorem RAt.set1 {T : TypeId} {w : World} {b : Nat} {S : ByteArray} {e : Int} (h : RAt T w b S e) (f : Int) : RAt T (w.setCell ⟨b, 1, none⟩ (.int .i64 f)) b S f := by
  unfold RAt
  rw [Go.Joins.block_setCell h]
  rfl
def rdoneM (S : ByteArray) (e : Int) : Int := if e = 0 then (if S = ByteArray.empty then 0 else 6) else e

theorem cnew_any (s : ByteArray) (w : World) :
    Calls Tryd.prog 30 #[.string s] w fun v w' => v = .returned (.pointer (some ⟨w.heap.size, 0, none⟩)) ∧ w.alloc (.cells #[.string s, .int .i64 0] 88) = w' := by
  go_enter Tryd.func30, Tryd.ntmps30
  go_wp2_with fail
  go_ret
  exact ⟨rfl, rfl⟩
theorem cerr_any (b : Nat) (S : ByteArray) (e : Int) (w : World) (h : RAt 88 w b S e) :
    Calls Tryd.prog 59 #[.pointer (some ⟨b, 0, none⟩)] w fun v w' => v = .returned (.int .i64 e) ∧ w = w' := by
  have c1 := Lib.cell_of_heap h 1
  clear h
  go_enter Tryd.func59, Tryd.ntmps59
  go_wp2_with fail
  go_ret
  exact ⟨rfl, rfl⟩

theorem cfail_any (b : Nat) (S : ByteArray) (e f : Int) (w : World) (h : RAt 88 w b S e) :
    Calls Tryd.prog 77 #[.pointer (some ⟨b, 0, none⟩), .int .i64 f] w fun v w' => v = .returned (.tuple #[]) ∧ RAt 88 w' b S (if e = 0 then f else e) ∧ KeptBut b w w' := by
  have c1 := Lib.cell_of_heap h 1
  have z1 := Lib.frozen_of_heap h 1
  have HW := Lib.hid h
  by_cases he : e = 0
  · subst he
    rw [if_pos rfl]
    clear h
    go_enter Tryd.func77, Tryd.ntmps77
    go_wp2_with fail
    go_end0
    exact ⟨rfl, HW.out.set1 f, KeptBut.set _ _ _ _⟩
  · rw [if_neg he]
    have he2 : (e == 0) = false := by simpa using he
    clear h he
    go_enter Tryd.func77, Tryd.ntmps77
    go_wp2_with fail
    go_end0
    exact ⟨rfl, HW.out, KeptBut.refl _ _⟩

theorem rfail_any (b : Nat) (S : ByteArray) (e f : Int) (w : World) (h : RAt 73 w b S e) :
    Calls Tryd.prog 72 #[.pointer (some ⟨b, 0, none⟩), .int .i64 f] w fun v w' => v = .returned (.tuple #[]) ∧ RAt 73 w' b S (if e = 0 then f else e) ∧ KeptBut b w w' := by
  have c1 := Lib.cell_of_heap h 1
  have z1 := Lib.frozen_of_heap h 1
  have HW := Lib.hid h
  by_cases he : e = 0
  · subst he
    rw [if_pos rfl]
    clear h
    go_enter Tryd.func72, Tryd.ntmps72
    go_wp2_with fail
    go_end0
    exact ⟨rfl, HW.out.set1 f, KeptBut.set _ _ _ _⟩
  · rw [if_neg he]
    have he2 : (e == 0) = false := by simpa using he
    clear h he
    go_enter Tryd.func72, Tryd.ntmps72
    go_wp2_with fail
    go_end0
    exact ⟨rfl, HW.out, KeptBut.refl _ _⟩

theorem empty_ne {S : ByteArray} (h : ¬ S = ByteArray.empty) : S.toList.isEmpty = false := by
  cases hb : S.toList.isEmpty with
  | false => rfl
  | true =>
    exfalso
    apply h
    rw [ByteArray.toList_eq] at hb
    apply ByteArray.ext
    apply Array.toList_inj.1
    rw [List.isEmpty_iff.1 hb]
    rfl

theorem rdone_any (b : Nat) (S : ByteArray) (e : Int) (w : World) (h : RAt 73 w b S e) :
    Calls Tryd.prog 38 #[.pointer (some ⟨b, 0, none⟩)] w fun v w' => v = .returned (.int .i64 (rdoneM S e)) ∧ w = w' := by
  have c0 := Lib.cell_of_heap h 0
  have c1 := Lib.cell_of_heap h 1
  by_cases he : e = 0
  · subst he
    by_cases hs : S = ByteArray.empty
    · subst hs
      have e1 : rdoneM ByteArray.empty 0 = 0 := by simp [rdoneM]
      rw [e1]
      clear h e1
      go_enter Tryd.func38, Tryd.ntmps38
      go_wp2_with fail
      go_ret
      exact ⟨rfl, rfl⟩
    · have e1 : rdoneM S 0 = 6 := by simp [rdoneM, hs]
      have hie : S.toList.isEmpty = false := empty_ne hs
      rw [e1]
      clear h e1
      go_enter Tryd.func38, Tryd.ntmps38
      go_wp2_with fail
      go_ret
      exact ⟨rfl, rfl⟩
  · have e1 : rdoneM S e = e := by simp [rdoneM, he]
    have he2 : (e == 0) = false := by simpa using he
    have he3 : (e != 0) = true := by simpa using he
    rw [e1]
    clear h he e1
    go_enter Tryd.func38, Tryd.ntmps38
    go_wp2_with fail
    go_ret
    exact ⟨rfl, rfl⟩

theorem cdone_any (b : Nat) (S : ByteArray) (e : Int) (w : World) (h : RAt 88 w b S e) :
    Calls Tryd.prog 34 #[.pointer (some ⟨b, 0, none⟩)] w fun v w' => v = .returned (.int .i64 (rdoneM S e)) ∧ w = w' := by
  have c0 := Lib.cell_of_heap h 0
  have c1 := Lib.cell_of_heap h 1
  have HE := Lib.hid (cerr_any b S e w h)
  by_cases he : e = 0
  · subst he
    by_cases hs : S = ByteArray.empty
    · subst hs
      have e1 : rdoneM ByteArray.empty 0 = 0 := by simp [rdoneM]
      rw [e1]
      clear h e1
      go_enter Tryd.func34, Tryd.ntmps34
      go_wp2_with fail
      refine HE.out.mono ?_
      rintro v w' ⟨rfl, rfl⟩
      go_wp2_with fail
      go_ret
      exact ⟨rfl, rfl⟩
    · have e1 : rdoneM S 0 = 6 := by simp [rdoneM, hs]
      have hie : S.toList.isEmpty = false := empty_ne hs
      rw [e1]
      clear h e1
      go_enter Tryd.func34, Tryd.ntmps34
      go_wp2_with fail
      refine HE.out.mono ?_
      rintro v w' ⟨rfl, rfl⟩
      go_wp2_with fail
      go_ret
      exact ⟨rfl, rfl⟩
  · have e1 : rdoneM S e = e := by simp [rdoneM, he]
    have he2 : (e == 0) = false := by simpa using he
    have he3 : (e != 0) = true := by simpa using he
    rw [e1]
    clear h he e1
    go_enter Tryd.func34, Tryd.ntmps34
    go_wp2_with fail
    refine HE.out.mono ?_
    rintro v w' ⟨rfl, rfl⟩
    go_wp2_with fail
    go_ret
    exact ⟨rfl, rfl⟩
end Go.Proofs.YtjmfdacnaodfdaaDoor

namespace Go.Proofs.YtjmfdacnaodfdaaDoor
set_option linter.unusedVariables false
set_option linter.unusedSimpArgs false
open Go.RowKit

theorem takeM_ok {l : List UInt8} {n k : Int} (h : takeM l = (n, k, 0)) : ∃ K : Nat, k = K ∧ 1 ≤ K ∧ K ≤ l.length := by
  unfold takeM at h
  split at h
  · split at h <;> simp at h
  · rename_i i hi
    have hl := endM_lt l 5 i hi
    split at h
    · simp at h
    · split at h
      · simp at h
      · simp only [Prod.mk.injEq, and_true] at h
        exact ⟨i + 1, by rw [← h.2]; simp, by omega, by omega⟩
/-- What is wrong with a number that bytes begin with, at most one. -/
def numE (l : List UInt8) (most : Int) : Int := if (takeM l).2.2 = 0 ∧ most < (takeM l).1 then 2 else (takeM l).2.2
theorem rnumber_stop (b : Nat) (S : ByteArray) (e most : Int) (he : e ≠ 0) (w : World) (h : RAt 73 w b S e) :
    Calls Tryd.prog 36 #[.pointer (some ⟨b, 0, none⟩), .int .i64 most] w fun v w' => v = .returned (.int .i64 0) ∧ w = w' := by
  have c1 := Lib.cell_of_heap h 1
  have he2 : (e == 0) = false := by simpa using he
  have he3 : (e != 0) = true := by simpa using he
  clear h he
  go_enter Tryd.func36, Tryd.ntmps36
  go_wp2_with fail
  go_ret
  exact ⟨rfl, rfl⟩
theorem rnumber_ok (b : Nat) (S : ByteArray) (most n : Int) (K : Nat) (hK : K ≤ S.size) (ht : takeM S.data.toList = (n, (K : Int), 0)) (hm : n ≤ most) (w : World) (h : RAt 73 w b S 0) :
    Calls Tryd.prog 36 #[.pointer (some ⟨b, 0, none⟩), .int .i64 most] w fun v w' => v = .returned (.int .i64 n) ∧ RAt 73 w' b (S.extract K S.size) 0 ∧ KeptBut b w w' := by
  have c0 := Lib.cell_of_heap h 0
  have z0 := Lib.frozen_of_heap h 0
  have c1 := Lib.cell_of_heap h 1
  have HW := Lib.hid h
  have HT := Lib.hid (rtake_any S w)
  rw [ht] at HT
  simp only at HT
  have hK1 : (0 : Int) ≤ K := by omega
  have hK2 : (K : Int) ≤ S.size := by omega
  have hm1 : ¬ most < n := by omega
  clear h ht
  go_enter Tryd.func36, Tryd.ntmps36
  go_wp2_with fail
  refine HT.out.mono ?_
  rintro v w' ⟨rfl, rfl⟩
  go_wp2_with fail
  go_ret
  exact ⟨rfl, HW.out.set0 _, KeptBut.set _ _ _ _⟩
theorem rnumber_bad (b : Nat) (S : ByteArray) (most : Int) (hE : numE S.data.toList most ≠ 0) (w : World) (h : RAt 73 w b S 0) :
    Calls Tryd.prog 36 #[.pointer (some ⟨b, 0, none⟩), .int .i64 most] w fun v w' => v = .returned (.int .i64 0) ∧ RAt 73 w' b S (numE S.data.toList most) ∧ KeptBut b w w' := by
  have c1 := Lib.cell_of_heap h 1
  have z1 := Lib.frozen_of_heap h 1
  have c0 := Lib.cell_of_heap h 0
  have HW := Lib.hid h
  have HT := Lib.hid (rtake_any S w)
  obtain ⟨n, k, er, ht⟩ : ∃ n k er, takeM S.data.toList = (n, k, er) := ⟨_, _, _, rfl⟩
  unfold numE at hE ⊢
  rw [ht] at HT hE ⊢
  simp only at HT hE ⊢
  clear h ht
  by_cases hb : er = 0 ∧ most < n
  · rw [if_pos hb]
    obtain ⟨rfl, hm⟩ := hb
    clear hE
    go_enter Tryd.func36, Tryd.ntmps36
    go_wp2_with fail
    refine HT.out.mono ?_
    rintro v w' ⟨rfl, rfl⟩
    go_wp2_with fail
    go_ret
    exact ⟨rfl, HW.out.set1 2, KeptBut.set _ _ _ _⟩
  · rw [if_neg hb] at hE ⊢
    have he2 : (er == 0) = false := by simpa using hE
    have he3 : (er != 0) = true := by simpa using hE
    clear hE hb
    go_enter Tryd.func36, Tryd.ntmps36
    go_wp2_with fail
    refine HT.out.mono ?_
    rintro v w' ⟨rfl, rfl⟩
    go_wp2_with fail
    go_ret
    exact ⟨rfl, HW.out.set1 er, KeptBut.set _ _ _ _⟩
end Go.Proofs.YtjmfdacnaodfdaaDoor

namespace Go.Proofs.YtjmfdacnaodfdaaDoor
set_option linter.unusedVariables false
set_option linter.unusedSimpArgs false
open Go.RowKit

theorem takeM_nat {l : List UInt8} {n k : Int} (h : takeM l = (n, k, 0)) : ∃ N : Nat, n = N ∧ N ≤ 1073741824 := by
  unfold takeM at h
  split at h
  · split at h <;> simp at h
  · split at h
    · simp at h
    · split at h
      · simp at h
      · rename_i hb
        simp only [Prod.mk.injEq, and_true] at h
        exact ⟨_, h.1.symm, Nat.le_of_not_lt hb⟩
theorem rtext_stop (b : Nat) (S : ByteArray) (e most : Int) (he : e ≠ 0) (w : World) (h : RAt 73 w b S e) :
    Calls Tryd.prog 37 #[.pointer (some ⟨b, 0, none⟩), .int .i64 most] w fun v w' => v = .returned (.string ⟨#[]⟩) ∧ w = w' := by
  have c0 := Lib.cell_of_heap h 0
  have c1 := Lib.cell_of_heap h 1
  have HN := Lib.hid (rnumber_stop b S e most he w h)
  have he2 : (e == 0) = false := by simpa using he
  have he3 : (e != 0) = true := by simpa using he
  clear h he
  go_enter Tryd.func37, Tryd.ntmps37
  go_wp2_with fail
  refine HN.out.mono ?_
  rintro v w' ⟨rfl, rfl⟩
  go_wp2_with fail
  go_ret
  exact ⟨rfl, rfl⟩
theorem rtext_bad (b : Nat) (S : ByteArray) (most : Int) (hE : numE S.data.toList most ≠ 0) (w : World) (h : RAt 73 w b S 0) :
    Calls Tryd.prog 37 #[.pointer (some ⟨b, 0, none⟩), .int .i64 most] w fun v w' => v = .returned (.string ⟨#[]⟩) ∧ RAt 73 w' b S (numE S.data.toList most) ∧ KeptBut b w w' := by
  have c0 := Lib.cell_of_heap h 0
  have HN := Lib.hid (rnumber_bad b S most hE w h)
  obtain ⟨e, hee⟩ : ∃ e, numE S.data.toList most = e := ⟨_, rfl⟩
  rw [hee] at hE HN ⊢
  have he2 : (e == 0) = false := by simpa using hE
  have he3 : (e != 0) = true := by simpa using hE
  clear h hE hee
  go_enter Tryd.func37, Tryd.ntmps37
  go_wp2_with fail
  refine HN.out.mono ?_
  rintro v w' ⟨rfl, hr, hk⟩
  have c1 := Lib.cell_of_heap hr 1
  have HR := Lib.hid (And.intro hr hk)
  clear hr hk c0
  go_wp2_with fail
  go_ret
  exact ⟨rfl, HR.out⟩
theorem ext_size (S : ByteArray) (K : Nat) (h : K ≤ S.size) : (S.extract K S.size).size = S.size - K := by rw [ByteArray.size_extract, Nat.min_self]
theorem rtext_short (b : Nat) (S : ByteArray) (most : Int) (N K : Nat) (hK : K ≤ S.size) (ht : takeM S.data.toList = ((N : Int), (K : Int), 0)) (hm : (N : Int) ≤ most) (hs : S.size < K + N) (w : World) (h : RAt 73 w b S 0) :
    Calls Tryd.prog 37 #[.pointer (some ⟨b, 0, none⟩), .int .i64 most] w fun v w' => v = .returned (.string ⟨#[]⟩) ∧ RAt 73 w' b S 5 ∧ KeptBut b w w' := by
  have c0 := Lib.cell_of_heap h 0
  have HN := Lib.hid (rnumber_ok b S most N K hK ht hm w h)
  obtain ⟨T, hT⟩ : ∃ T : ByteArray, S.extract K S.size = T := ⟨_, rfl⟩
  have hz : T.size < N := by rw [← hT, ext_size S K hK]; omega
  have hz' : (T.size : Int) < N := by omega
  rw [hT] at HN
  clear h ht hT hs hK hm
  go_enter Tryd.func37, Tryd.ntmps37
  go_wp2_with fail
  refine HN.out.mono ?_
  rintro v w' ⟨rfl, hr, hk⟩
  have c0 := Lib.cell_of_heap hr 0
  have z0 := Lib.frozen_of_heap hr 0
  have z1 := Lib.frozen_of_heap (hr.set0 S) 1
  have c1 := Lib.cell_of_heap hr 1
  have HR := Lib.hid (And.intro hr hk)
  clear hr hk
  go_wp2_with fail
  go_ret
  exact ⟨rfl, (HR.out.1.set0 S).set1 5, (HR.out.2.trans (KeptBut.set _ _ _ _)).trans (KeptBut.set _ _ _ _)⟩
theorem rtext_ok (b : Nat) (S : ByteArray) (most : Int) (N K : Nat) (hK : K ≤ S.size) (ht : takeM S.data.toList = ((N : Int), (K : Int), 0)) (hm : (N : Int) ≤ most) (hs : K + N ≤ S.size) (w : World) (h : RAt 73 w b S 0) :
    Calls Tryd.prog 37 #[.pointer (some ⟨b, 0, none⟩), .int .i64 most] w fun v w' => v = .returned (.string ((S.extract K S.size).extract 0 N)) ∧ RAt 73 w' b ((S.extract K S.size).extract N (S.extract K S.size).size) 0 ∧ KeptBut b w w' := by
  have c0 := Lib.cell_of_heap h 0
  have HN := Lib.hid (rnumber_ok b S most N K hK ht hm w h)
  obtain ⟨T, hT⟩ : ∃ T : ByteArray, S.extract K S.size = T := ⟨_, rfl⟩
  have hz : N ≤ T.size := by rw [← hT, ext_size S K hK]; omega
  have hz' : (N : Int) ≤ T.size := by omega
  have hz2 : ¬ (T.size : Int) < N := by omega
  have hn0 : (0 : Int) ≤ N := by omega
  rw [hT] at HN ⊢
  clear h ht hT hs hK hm
  go_enter Tryd.func37, Tryd.ntmps37
  go_wp2_with fail
  refine HN.out.mono ?_
  rintro v w' ⟨rfl, hr, hk⟩
  have c0 := Lib.cell_of_heap hr 0
  have z0 := Lib.frozen_of_heap hr 0
  have c1 := Lib.cell_of_heap hr 1
  have HR := Lib.hid (And.intro hr hk)
  clear hr hk
  go_wp2_with fail
  go_ret
  exact ⟨rfl, HR.out.1.set0 _, HR.out.2.trans (KeptBut.set _ _ _ _)⟩
end Go.Proofs.YtjmfdacnaodfdaaDoor
