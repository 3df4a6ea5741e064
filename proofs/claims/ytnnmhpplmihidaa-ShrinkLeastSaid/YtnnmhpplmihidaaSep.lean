/- A range over a function whose iterator writes memory of its own between two rounds: both sides say which blocks they lean on. -/
import Derived.RangeFuncNested
import Derived.RangeFuncBound
import Derived.RangeFuncCalls
import Derived.RangeFuncLeaves
import Derived.RangeFuncBox
import Derived.Below
import Derived.Deep.Draws
import Derived.Deep.AppendLies
import Derived.OwnWalkIn
namespace Go.Proofs.Ytnnmhpplmihidaa
set_option linter.unusedVariables false
set_option linter.unusedSimpArgs false
open Go.RowKit

/-- Nothing below n0 has turned, and of what was there nothing of O. -/
structure Moved (n0 : Nat) (O : Nat → Prop) (W W' : World) : Prop where
  below : Below n0 W W'
  keep : ∀ k, k < W.heap.size → O k → W'.heap[k]? = W.heap[k]?

theorem Moved.refl (n0 : Nat) (O : Nat → Prop) (W : World) : Moved n0 O W W := ⟨Below.refl _ _, fun _ _ _ => rfl⟩
theorem Moved.trans {n0 : Nat} {O : Nat → Prop} {A B C : World} (h : Moved n0 O A B) (k : Moved n0 O B C) : Moved n0 O A C :=
  ⟨h.below.trans k.below, fun i hi ho => (k.keep i (Nat.lt_of_lt_of_le hi h.below.size) ho).trans (h.keep i hi ho)⟩
theorem Moved.mono {n0 : Nat} {O O' : Nat → Prop} {A B : World} (h : Moved n0 O A B) (ho : ∀ k, k < A.heap.size → O' k → O k) : Moved n0 O' A B :=
  ⟨h.below, fun i hi hk => h.keep i hi (ho i hi hk)⟩
theorem Moved.alloc {n0 : Nat} {O : Nat → Prop} {W : World} (h : n0 ≤ W.heap.size) (o : Obj) : Moved n0 O W (W.alloc o) :=
  ⟨(Below.refl _ _).alloc h _, fun k hk _ => Below.heap_alloc W o k hk⟩
theorem Moved.setCell {n0 : Nat} {O : Nat → Prop} (W : World) (a : Addr) (v : Value) (h : n0 ≤ a.block) (ho : ¬ O a.block) : Moved n0 O W (W.setCell a v) :=
  ⟨(Below.refl _ _).setCell h _, fun k _ hk => Below.heap_setCell W a v k (fun e => ho (e ▸ hk))⟩
theorem Moved.putObj {n0 : Nat} {O : Nat → Prop} (W : World) (l : Nat) (o : Obj) (h : n0 ≤ l) (hl : l < W.heap.size) (ho : ¬ O l) : Moved n0 O W (W.putObj l o) :=
  ⟨(Below.refl _ _).grown (grownBy_putObj' W l o) (by omega) (fun k e => by cases e; exact h), fun k _ hk => World.putObj_heap_other (fun e => ho (e ▸ hk))⟩
theorem Moved.grown {n0 : Nat} {O : Nat → Prop} {W W' : World} {row : Option Nat} (hg : W.grownBy W' row) (hn : n0 ≤ W.heap.size) (hr : ∀ k, row = some k → n0 ≤ k ∧ ¬ O k) : Moved n0 O W W' :=
  ⟨(Below.refl _ _).grown hg hn (fun k e => (hr k e).1), fun k hk ho => hg.block k hk (fun e => (hr k e.symm).2 ho)⟩
theorem Moved.drew {n0 : Nat} {O : Nat → Prop} (W : World) (n : Nat) : Moved n0 O W (W.drewN n) :=
  ⟨⟨rfl, rfl, rfl, Nat.le_refl _, fun _ _ => rfl⟩, fun _ _ _ => rfl⟩

/-- The word of an iterator's value: called at the yield of any loop, against any consumer who says what he leans on (O) and keeps off what the iterator leans on (mine). Jx: a round that has said 'no more'. -/
def SeqSep {α : Type} (F : Fence) (n : Nat) (P : Program) (g : Nat) (lb : Array Value) (encs : α → Array Value) (xs : List α) (n0 : Nat) (mine : Nat → Prop) (w : World) : Prop :=
  ∀ (l : Nat) (J : List α → (Nat → Prop) → World → Prop) (Jx : List α → World → Prop) (O : Nat → Prop) (W : World),
    Moved n0 mine w W → (∀ k, mine k → ¬ O k) →
    (∀ pre O A B, J pre O A → Moved n0 O A B → J pre O B) →
    (∀ pre O A, J pre O A → n0 ≤ A.heap.size ∧ ∀ k, O k → k < A.heap.size) →
    (∀ pre O x A, J pre O A → pre ++ [x] <+: xs → YieldAt F (n - 1) P l (encs x) A fun e B =>
      (e = .returned (.bool true) ∧ Moved n0 (fun k => ¬ O k) A B ∧ ∃ O', (∀ k, O' k → O k ∨ A.heap.size ≤ k) ∧ J (pre ++ [x]) O' B) ∨
      (e = .returned (.bool false) ∧ Jx (pre ++ [x]) B)) →
    J [] O W →
    CallsIn F n P g (#[.func (.yield l) #[] #[]] ++ lb) W fun e W' => (∃ v, e = .returned v) ∧ ((∃ O', J xs O' W') ∨ (∃ pre, pre <+: xs ∧ Jx pre W'))

/-- How a round's body may be left. -/
def sepPost {α : Type} (n0 : Nat) (I : List α → (Nat → Prop) → World → Prop) (Ix : Code → List α → World → Prop) (O : Nat → Prop) (xs : List α) (W : World) (l D : Nat) : Exit → Act → World → Prop
  | .normal, _, W' => Moved n0 (fun k => ¬ O k) W W' ∧ ∃ O', (∀ k, O' k → O k ∨ W.heap.size ≤ k) ∧ I xs O' W'
  | .ret, _, W' => Moved n0 (fun k => k = l ∨ k = D) W W' ∧ Ix .ret xs W'
  | .exit id, _, W' => Moved n0 (fun k => k = l ∨ k = D) W W' ∧ Ix (.exit id) xs W'
  | .goto t, _, W' => Moved n0 (fun k => k = l ∨ k = D) W W' ∧ Ix (.goto t) xs W'
  | .panic _, _, _ => False
  | .outgrown, _, _ => False

variable {F : Fence} {n : Nat} {P : Program}

theorem wpIn_rangeFunc_sep {α : Type} {g : Operand} {ps : Array Tmp} {assign body : Code} {Q : Exit → Act → World → Prop} {a : Act} {w : World}
    (hro : F.round = none) (h1 : 1 ≤ n) {gf : Nat} {lb : Array Value} (hg : a.eval g = .func (.func gf) #[] lb) (hFg : F.fn gf) (eg : ∀ args w, (callFunc gf args).run P w = .ok (.enter gf args) w)
    {encs : α → Array Value} {xs : List α} {n0 : Nat} {mine : Nat → Prop} {w0 : World} (hseq : SeqSep F (n - 1) P gf lb encs xs n0 mine w0) (hb0 : Moved n0 mine w0 w) (hmw : ∀ k, mine k → k < w.heap.size) (hps : ∀ x, (encs x).size = ps.size)
    (I : List α → (Nat → Prop) → World → Prop) (Ix : Code → List α → World → Prop)
    (hI : ∀ pre O A B, I pre O A → Moved n0 O A B → I pre O B)
    (hIx : ∀ c pre A l o, Ix c pre A → w.heap.size ≤ l → A.heap[l]? = some o → o.isCells = false → ∀ o', Ix c pre (A.putObj l o'))
    (hO : ∀ pre O A, I pre O A → n0 ≤ A.heap.size ∧ ∀ k, O k → k < A.heap.size)
    (O0 : Nat → Prop) (hm0 : ∀ k, mine k → ¬ O0 k) (h0 : I [] O0 w) (a₁ : α → Act)
    (hassign : ∀ (l : Nat) (x : α) (W : World) (K : Act → World → Prop), K (a₁ x) W →
      assign.wpIn (F.inRound l) (n - 1 - 1) P (Exit.then K (fun _ _ _ => False)) { tmps := (ps.zip (encs x)).foldl (fun t (p, v) => t.setIfInBounds p v) a.tmps, defers := [] } W)
    (hbody : ∀ (l D : Nat) (pre : List α) (O : Nat → Prop) (x : α) (W : World), I pre O W → pre ++ [x] <+: xs → ¬ O l → ¬ O D → l < W.heap.size → D < W.heap.size →
      body.wpIn (F.inRound l) (n - 1 - 1) P (sepPost n0 I Ix O (pre ++ [x]) W l D) (a₁ x) W)
    (hdone : ∀ (D : Nat) (O : Nat → Prop) (W : World), w.heap.size ≤ D → ¬ O D → I xs O W → W.heap[D]? = some (.deferred (some [])) → Q .normal { a with defers := { target := .collected D, args := #[] } :: a.defers } W)
    (hstop : ∀ (D : Nat) (c : Code) (pre : List α) (W : World), w.heap.size ≤ D → pre <+: xs → Ix c pre W → W.heap[D]? = some (.deferred (some [])) → c.wpIn F n P Q { a with defers := { target := .collected D, args := #[] } :: a.defers } W) :
    (Code.rangeFunc g ps assign body).wpIn F n P Q a w := by
  refine wpIn_rangeFunc ?_
  intro fn hfn
  rw [hro]
  obtain ⟨rec, hrec⟩ : ∃ rec : LoopState → Option Code → Loop, rec = fun st pe => { state := st, pending := pe, fn, tmps := a.tmps, params := ps, assign, body, defers := w.heap.size } := ⟨_, rfl⟩
  obtain ⟨W1, hW1⟩ : ∃ W1, (w.alloc (.deferred (some []))).alloc (.loop (rec .ready none)) = W1 := ⟨_, rfl⟩
  obtain ⟨hn0, hO0⟩ := hO _ _ _ h0
  have mv1 : ∀ O, Moved n0 O w W1 := fun O => by
    rw [← hW1]; exact (Moved.alloc hn0 _).trans (Moved.alloc (by simp; omega) _)
  have hL1 : W1.heap[w.heap.size + 1]? = some (.loop (rec .ready none)) := by
    rw [← hW1]; have := World.alloc_heap_new (w.alloc (.deferred (some []))) (.loop (rec .ready none)); rwa [World.size_alloc] at this
  have hK1 : W1.heap[w.heap.size]? = some (.deferred (some [])) := by
    rw [← hW1]; exact (Below.heap_alloc _ _ _ (by simp)).trans (World.alloc_heap_new w _)
  have hI1 : I [] O0 W1 := hI _ _ _ _ h0 (mv1 _)
  refine ⟨w.heap.size + 1, [{ target := .collected w.heap.size, args := #[] }], W1, { target := .fn (.func gf) lb, args := #[.func (.yield (w.heap.size + 1)) #[] #[]] }, W1, gf,
    #[.func (.yield (w.heap.size + 1)) #[] #[]] ++ lb, W1, ?_, ?_, ?_, ?_, fun _ => h1, ?_⟩
  · rw [← hW1, hrec]; exact run_enterLoop_outer _ _ _ _ _
  · simp only [resolve, hg]
    simp [go_sem]
  · intro f' hf'; simp [Target.leads] at hf'; subst hf'; exact hFg
  · simp [invoke, go_sem, eg]
  · refine (hseq (w.heap.size + 1)
      (fun pre O W => ∃ O', (∀ k, O k ↔ (O' k ∨ k = w.heap.size + 1 ∨ k = w.heap.size)) ∧ ¬ O' (w.heap.size + 1) ∧ ¬ O' w.heap.size ∧ I pre O' W ∧ W.heap[w.heap.size + 1]? = some (.loop (rec .ready none)) ∧ W.heap[w.heap.size]? = some (.deferred (some [])))
      (fun pre W => ∃ c, Ix c pre W ∧ W.heap[w.heap.size + 1]? = some (.loop (rec .done (some c))) ∧ W.heap[w.heap.size]? = some (.deferred (some [])))
      (fun k => O0 k ∨ k = w.heap.size + 1 ∨ k = w.heap.size) W1 (hb0.trans (mv1 _)) ?_ ?_ ?_ ?_ ?_).mono ?_
    · rintro k hk (h | h | h)
      · exact hm0 k hk h
      · have := hmw k hk; omega
      · have := hmw k hk; omega
    · rintro pre O A B ⟨O', hO', hl', hd', hi, hl, hk⟩ hm
      exact ⟨O', hO', hl', hd', hI _ _ _ _ hi (hm.mono fun k _ h => (hO' k).2 (.inl h)), (hm.keep _ (Array.getElem?_eq_some_iff.1 hl).1 ((hO' _).2 (.inr (.inl rfl)))).trans hl,
        (hm.keep _ (Array.getElem?_eq_some_iff.1 hk).1 ((hO' _).2 (.inr (.inr rfl)))).trans hk⟩
    · rintro pre O A ⟨O', hO', hl', hd', hi, hl, hk⟩
      refine ⟨(hO _ _ _ hi).1, fun k h => ?_⟩
      rcases (hO' k).1 h with h | rfl | rfl
      · exact (hO _ _ _ hi).2 k h
      · exact (Array.getElem?_eq_some_iff.1 hl).1
      · exact (Array.getElem?_eq_some_iff.1 hk).1
    · -- one round
      rintro pre O x A ⟨O', hO', hl', hd', hi, hl, hk⟩ hpre
      have hlt : w.heap.size + 1 < A.heap.size := (Array.getElem?_eq_some_iff.1 hl).1
      have hy := run_yield (P := P) (args := encs x) hl (by rw [hrec]; exact hps x)
      rw [hrec] at hy
      refine ⟨fn, _, assign, body, hy, roundIn_of_wpIn hfn (hassign _ x A _ ⟨_, run_beginRound hl (by rw [hrec]), ?_⟩)⟩
      have hl2 : (A.putObj (w.heap.size + 1) (.loop { rec .ready none with state := .busy })).heap[w.heap.size + 1]? = some (.loop { rec .ready none with state := .busy }) := World.putObj_heap_same hlt
      have hk2 : (A.putObj (w.heap.size + 1) (.loop { rec .ready none with state := .busy })).heap[w.heap.size]? = some (.deferred (some [])) := (World.putObj_heap_other (by omega)).trans hk
      have hm2 : Moved n0 O' A (A.putObj (w.heap.size + 1) (.loop { rec .ready none with state := .busy })) := Moved.putObj _ _ _ (by omega) hlt hl'
      have hm2' : Moved n0 (fun k => ¬ O k) A (A.putObj (w.heap.size + 1) (.loop { rec .ready none with state := .busy })) := Moved.putObj _ _ _ (by omega) hlt (fun h => h ((hO' _).2 (.inr (.inl rfl))))
      refine wpIn_mono (hbody _ w.heap.size pre O' x _ (hI _ _ _ _ hi hm2) hpre hl' hd' (by simpa using hlt) (by simp; omega)) ?_
      have fin : ∀ (jump : Option Code) (W3 : World), Moved n0 (fun k => k = w.heap.size + 1 ∨ k = w.heap.size) (A.putObj (w.heap.size + 1) (.loop { rec .ready none with state := .busy })) W3 →
          (Instr.endRound (w.heap.size + 1) jump).run P W3 = .ok (.bool jump.isNone) (W3.putObj (w.heap.size + 1) (.loop (rec (if jump.isNone then .ready else .done) jump))) ∧
          W3.heap[w.heap.size + 1]? = some (.loop { rec .ready none with state := .busy }) ∧
          (W3.putObj (w.heap.size + 1) (.loop (rec (if jump.isNone then .ready else .done) jump))).heap[w.heap.size + 1]? = some (.loop (rec (if jump.isNone then .ready else .done) jump)) ∧
          (W3.putObj (w.heap.size + 1) (.loop (rec (if jump.isNone then .ready else .done) jump))).heap[w.heap.size]? = some (.deferred (some [])) := fun jump W3 hk3 => by
        have hl3 := (hk3.keep _ (by simpa using hlt) (.inl rfl)).trans hl2
        have := run_endRound (P := P) jump hl3
        rw [hrec] at this ⊢
        exact ⟨this, by rw [hrec] at hl3; exact hl3, World.putObj_heap_same (Array.getElem?_eq_some_iff.1 hl3).1, (World.putObj_heap_other (by omega)).trans ((hk3.keep _ (by simp; omega) (.inr rfl)).trans hk2)⟩
      rintro e a3 W3 hp
      cases e with
      | normal =>
        obtain ⟨hk3, O2, hO2, hi3⟩ := hp
        have hk3' := hk3.mono (O' := fun k => k = w.heap.size + 1 ∨ k = w.heap.size) (fun k _ h => by rcases h with rfl | rfl <;> assumption)
        obtain ⟨hr, hl3, hl4, hk4⟩ := fin none W3 hk3'
        have hlt3 : w.heap.size + 1 < W3.heap.size := (Array.getElem?_eq_some_iff.1 hl3).1
        have hnl : ¬ O2 (w.heap.size + 1) := fun h => by
          rcases hO2 _ h with h | h
          · exact hl' h
          · simp at h; omega
        have hnd : ¬ O2 w.heap.size := fun h => by
          rcases hO2 _ h with h | h
          · exact hd' h
          · simp at h; omega
        refine ⟨_, _, hr, .inl ⟨rfl, ?_, fun k => O2 k ∨ k = w.heap.size + 1 ∨ k = w.heap.size, ?_, O2, fun k => Iff.rfl, hnl, hnd, ?_, hl4, hk4⟩⟩
        · refine (hm2'.trans (hk3.mono ?_)).trans (Moved.putObj _ _ _ (by omega) hlt3 (fun h => h ((hO' _).2 (.inr (.inl rfl)))))
          intro k _ h h'
          exact h ((hO' k).2 (.inl h'))
        · rintro k (h | h | h)
          · rcases hO2 _ h with h | h
            · exact .inl ((hO' k).2 (.inl h))
            · exact .inr (by simpa using h)
          · exact .inl ((hO' k).2 (.inr (.inl h)))
          · exact .inl ((hO' k).2 (.inr (.inr h)))
        · exact hI _ _ _ _ hi3 (Moved.putObj _ _ _ (by omega) hlt3 hnl)
      | ret =>
        obtain ⟨hk3, hi3⟩ := hp
        obtain ⟨hr, hl3, hl4, hk4⟩ := fin (some .ret) W3 hk3
        exact ⟨_, _, hr, .inr ⟨rfl, .ret, hIx _ _ _ _ _ hi3 (by omega) hl3 rfl _, hl4, hk4⟩⟩
      | exit id =>
        obtain ⟨hk3, hi3⟩ := hp
        obtain ⟨hr, hl3, hl4, hk4⟩ := fin (some (.exit id)) W3 hk3
        exact ⟨_, _, hr, .inr ⟨rfl, .exit id, hIx _ _ _ _ _ hi3 (by omega) hl3 rfl _, hl4, hk4⟩⟩
      | goto t =>
        obtain ⟨hk3, hi3⟩ := hp
        obtain ⟨hr, hl3, hl4, hk4⟩ := fin (some (.goto t)) W3 hk3
        exact ⟨_, _, hr, .inr ⟨rfl, .goto t, hIx _ _ _ _ _ hi3 (by omega) hl3 rfl _, hl4, hk4⟩⟩
      | panic ch => exact hp.elim
      | outgrown => exact hp.elim
    · exact ⟨O0, fun k => Iff.rfl, fun h => by have := hO0 _ h; omega, fun h => by have := hO0 _ h; omega, hI1, hL1, hK1⟩
    · -- behind the iterator
      rintro e W2 ⟨⟨v, rfl⟩, (⟨O, O', hO', hl', hd', hi, hl, hk⟩ | ⟨pre, hSp, c, hi, hl, hk⟩)⟩
      · have hlt2 := (Array.getElem?_eq_some_iff.1 hl).1
        exact ⟨none, _, by have := run_endLoop (P := P) hl (by rw [hrec]; simp); rw [hrec] at this; exact this, hdone _ O' _ (Nat.le_refl _) hd' (hI _ _ _ _ hi (Moved.putObj _ _ _ (by omega) hlt2 hl')) ((World.putObj_heap_other (by omega)).trans hk)⟩
      · exact ⟨some c, _, by have := run_endLoop (P := P) hl (by rw [hrec]; simp); rw [hrec] at this; exact this, hstop _ c pre _ (Nat.le_refl _) hSp (hIx _ _ _ _ _ hi (by omega) hl rfl _) ((World.putObj_heap_other (by omega)).trans hk)⟩

/-- An append to a row of the call's own, inside a fence: where the new row lies. -/
theorem wpListIn_append_lies (w : World) {ops : Array Oper} {rest : List Oper} {o : Oper} {a : Act} {Q : Exit → Act → World → Prop}
    (hg : o.guard = none) (s x : Operand) (t : TypeId) (hop : o.op = Op.call { callee := Callee.builtin Builtin.append, args := #[s, x], argTypes := #[t, t] })
    (base : Nat) (e : TypeId) (i : TypeInfo) (z : Value) (size bytes : Nat) (h1 : P.underlying t = some (.slice e)) (h2 : P.info? e = some i) (h3 : i.zero = some z) (h4 : i.size = size) (h5 : i.bytes = bytes) (h6 : z.cells.size = size) (h7 : 0 < size)
    (v : Value) (k : Nat) (xs : List Value) (hs : a.eval s = v) (hown : w.ownsRow base e size v k xs) (ad : Addr) (m c : Nat) (news : List Value) (hx : a.eval x = .slice (some ad) m c) (hn : news.length = m * size)
    (hc : ∀ j u, news[j]? = some u → w.cell? (ad.add j) = some u) (h1c : ∀ u ∈ news, u.oneCell' = true) (hm : 0 < m) (b1 : k + m ≤ maxLen) (b2 : (k + m) * bytes ≤ 140737488355328) (b3 : base ≤ w.heap.size) (H : Nat) (hH : w.heap.size = H)
    (hK : ∀ g cap w', w'.ownsRow base e size (.slice (some ⟨g, 0, none⟩) (k + m) cap) (k + m) (xs ++ news) → w.grownBy w' v.ownBlock → (v.ownBlock = some g ∨ g = H) → g < w'.heap.size → wpListIn F n P ops Q rest (a.put o.dst (.slice (some ⟨g, 0, none⟩) (k + m) cap)) w') :
    wpListIn F n P ops Q (o :: rest) a w := by
  refine wpListIn_plain hg fun K hK' => ?_
  obtain ⟨g, cap, w', hrun, r1, r2, r3, r4⟩ := run_append_lies (P := P) w t o.type base e i z size bytes h1 h2 h3 h4 h5 h6 h7 v k xs hown ad m c news hn hc h1c hm b1 b2 b3 H hH
  unfold Oper.wpIn
  refine ⟨?_, ?_⟩
  · simp [Oper.about, hop, resolve, Target.leads, Sem.run_pure]
  · rw [Oper.semAt_plain F _ _ (by rw [hop]; intro c hc'; cases hc')]
    simp [execOp, hop, resolve, invoke, builtin, hs, hx, hrun, Result.andThen]
    exact hK' _ _ (hK g cap w' r1 r2 r3 r4)

end Go.Proofs.Ytnnmhpplmihidaa
