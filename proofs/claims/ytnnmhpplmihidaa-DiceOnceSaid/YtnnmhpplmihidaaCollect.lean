/- slices.Collect of an iterator of ints hands back a new slice of what the iterator gave. -/
import Derived.RangeFuncNested
import Derived.RangeFuncBound
import Derived.RangeFuncCalls
import Derived.RangeFuncLeaves
import Derived.RangeFuncBox
import Derived.Shelf.Abstract
import Derived.Shelf.RegionOpen
import Derived.WalkKit
import Derived.OwnWalkIn
import Derived.TacticsInMore
import Derived.LoopNIn
import Derived.LoopIn
import Derived.Maps.AppendAt
import Derived.Lib.Hide
import Derived.Test.YtnnmhpplmihidaaProg
import Derived.Test.YtnnmhpplmihidaaSep
namespace Go.Proofs.Ytnnmhpplmihidaa
set_option linter.unusedVariables false
set_option linter.unusedSimpArgs false
open Go.RowKit Go.Shelf
attribute [local go_sem] Oper.semAt_some

theorem infoInt : (Try.prog.info? 3).map (fun i => (i.zero, i.size, i.bytes)) = some (some (.int .i64 0), 1, 8) := by kernel_rfl

/-- What the loop of AppendSeq leans on. -/
def ApI (n0 Bs : Nat) (w0 : World) (pre : List Int) (O : Nat → Prop) (W : World) : Prop :=
  ∃ v, Boxed W Bs 24 v ∧ W.ownsRow n0 3 1 v pre.length (pre.map (Value.int .i64)) ∧ (v = .slice none 0 0 ↔ pre = []) ∧ Below n0 w0 W ∧ (∀ k, O k ↔ (k = Bs ∨ some k = v.ownBlock)) ∧ n0 ≤ Bs ∧ n0 ≤ w0.heap.size

theorem ApI.moved {n0 Bs : Nat} {w0 : World} {pre : List Int} {O : Nat → Prop} {A B : World} (h : ApI n0 Bs w0 pre O A) (hm : Moved n0 O A B) : ApI n0 Bs w0 pre O B := by
  obtain ⟨v, hv, hr, hn, hb, hO, h1, h2⟩ := h
  refine ⟨v, (hm.keep _ hv.lt ((hO _).2 (.inl rfl))).trans hv, ⟨hr.1, ?_⟩, hn, hb.trans hm.below, hO, h1, h2⟩
  rcases hr.2 with h | ⟨g, cap, cur, rfl, hg, hh, r⟩
  · exact .inl h
  · exact .inr ⟨g, cap, cur, rfl, hg, (hm.keep _ (Array.getElem?_eq_some_iff.1 hh).1 ((hO _).2 (.inr rfl))).trans hh, r⟩

theorem ApI.lt {n0 Bs : Nat} {w0 : World} {pre : List Int} {O : Nat → Prop} {A : World} (h : ApI n0 Bs w0 pre O A) : n0 ≤ A.heap.size ∧ ∀ k, O k → k < A.heap.size := by
  obtain ⟨v, hv, hr, hn, hb, hO, h1, h2⟩ := h
  refine ⟨Nat.le_trans h2 hb.size, fun k hk => ?_⟩
  rcases (hO k).1 hk with rfl | hk
  · exact hv.lt
  · rcases hr.2 with ⟨rfl, _⟩ | ⟨g, cap, cur, rfl, hg, hh, r⟩
    · simp [Value.ownBlock] at hk
    · simp [Value.ownBlock] at hk; subst hk; exact (Array.getElem?_eq_some_iff.1 hh).1

set_option maxHeartbeats 1000000 in
theorem appendSeq_in (F : Fence) (n : Nat) (h59 : F.fn 59) (hro : F.round = none) (hn : 2 ≤ n) (gf : Nat) (lb : Array Value) (hFg : F.fn gf) (eg : ∀ args w, (callFunc gf args).run Try.prog w = .ok (.enter gf args) w)
    (xs : List Int) (hx : xs.length * 8 ≤ 140737488355328) (n0 : Nat) (mine : Nat → Prop) (w : World) (hmw : ∀ k, mine k → k < w.heap.size) (hn0 : n0 ≤ w.heap.size)
    (hseq : SeqSep F (n - 1) Try.prog gf lb (fun x : Int => #[.int .i64 x]) xs n0 mine w) :
    CallsIn F n Try.prog 59 #[.slice none 0 0, .func (.func gf) #[] lb] w fun e w' => ∃ v, e = .returned v ∧ w'.ownsRow n0 3 1 v xs.length (xs.map (Value.int .i64)) ∧ (v = .slice none 0 0 ↔ xs = []) ∧ Below n0 w w' := by
  have h1 : 1 ≤ n := by omega
  obtain ⟨i0, hi, hz0, hz1, hz2⟩ := info_parts infoInt
  refine callsIn_of_wp_marks Try.func59 rfl h59 ?_ hro
  simp only [Try.ntmps59, List.size_toArray, List.length_cons, List.length_nil, Nat.reduceAdd, Nat.reduceSub, Array.replicate_succ, Array.replicate_zero, List.push_toArray, List.append_toArray, List.nil_append, List.cons_append]
  gi_wp2
  refine wpIn_rangeFunc_sep hro h1 (gf := gf) (lb := lb) rfl hFg eg (n0 := n0) (mine := mine) (w0 := w) hseq (Moved.alloc hn0 _) (fun k hk => by have := hmw k hk; simp; omega) (fun _ => rfl)
    (ApI n0 w.heap.size w) (fun _ _ _ => False) (fun pre O A B h hm => h.moved hm) (fun _ _ _ _ _ h => h.elim) (fun pre O A h => h.lt)
    (fun k => k = w.heap.size) (fun k hk e => by have := hmw k hk; omega)
    ⟨.slice none 0 0, Boxed.new _ _ _, ⟨rfl, .inl ⟨rfl, rfl⟩⟩, by simp, (Below.refl _ _).alloc hn0 _, fun k => by simp [Value.ownBlock], hn0, hn0⟩
    (fun x => { tmps := #[.slice none 0 0, .func (.func gf) #[] lb, .pointer (some ⟨w.heap.size, 0, none⟩), undef, .slice none 0 0, .int .i64 x, .func (.func gf) #[] lb, .int .i64 x, undef, undef, undef, undef, undef], defers := [] }) ?assign ?body ?done ?stop
  case assign =>
    intro l x W K hK
    gi_wp2
    exact hK
  case body =>
    rintro l D pre O x W ⟨v, hv, hrow, hnil, hB, hO, hBs, hn0'⟩ hpre hl hD hl1 hD1
    have hc := hv.cell
    have hf := hv.frozen
    have HO := Lib.hid hO
    have HN := Lib.hid hnil
    have HP := Lib.hid hpre
    have hle : n0 ≤ W.heap.size := Nat.le_trans hn0' hB.size
    have hlen : pre.length + 1 ≤ xs.length := by
      obtain ⟨t, ht⟩ := hpre
      have := congrArg List.length ht
      simp at this; omega
    clear hO hnil hpre
    gi_wp2_with ((gi_at_builtin; refine wpListIn_append_lies _ rfl _ _ 24 rfl n0 3 i0 (.int .i64 0) 1 8 Try.underlying24 hi hz0 hz1 hz2 rfl (by decide) _ _ _ rfl (hrow.alloc _) ⟨W.heap.size, 0, none⟩ 1 1 [.int .i64 x] rfl rfl (cell_one_new _ _ _) (by simp [Value.oneCell']) (by omega) (by unfold maxLen; omega) (by omega) (by have := hB.size; simp; omega) (W.heap.size + 1) (by simp) ?_; intro g' cap' w1 hown' hgrow hlies _; obtain ⟨hv1, hv2, hr2, hk2, hb2⟩ := hv.appended (by decide) hrow hle hBs hown' hgrow; have hc1 := hv1.cell; have hf1 := hv1.frozen))
    replace hlies : v.ownBlock = some g' ∨ g' = W.heap.size + 1 := hlies
    replace hgrow : (W.alloc (Obj.cells #[Value.int IntKind.i64 x] 3)).grownBy w1 v.ownBlock := hgrow
    have hvb : ∀ k, v.ownBlock = some k → O k := fun k hk => (HO.out k).2 (.inr hk.symm)
    have hOs : O w.heap.size := (HO.out _).2 (.inl rfl)
    refine ⟨⟨hb2, fun k hk ho => ?_⟩, fun k => k = w.heap.size ∨ some k = some g', ?_, ⟨_, hv2, by simpa using hr2, by simp, hB.trans hb2, fun k => by simp [Value.ownBlock], hBs, hn0'⟩⟩
    · rw [Below.heap_setCell _ _ _ k (fun e => ho (by rw [e]; exact hOs))]
      exact (hgrow.block k (by simp; omega) (fun e => ho (hvb k e.symm))).trans (Below.heap_alloc _ _ _ hk)
    · rintro k (rfl | h)
      · exact .inl hOs
      · obtain rfl : k = g' := by simpa using h
        rcases hlies with h | h
        · exact .inl (hvb _ h)
        · exact .inr (by omega)
  case done =>
    rintro D O W hle hD ⟨v, hv, hrow, hnil, hB, hO, hBs, hn0'⟩ hK
    have hc := hv.cell
    have HO := Lib.hid hO
    have HN := Lib.hid hnil
    clear hO hnil
    gi_wp2
    simp at hle
    refine ⟨by simp, .inl ⟨_, _, rfl, run_takeDeferred hK, ?_⟩⟩
    exact ⟨_, results_tmp rfl _ _ _, v, rfl, ownsRow_putObj hrow _ hK rfl, HN.out, hB.grown (grownBy_putObj' _ _ _) (by have := hB.size; omega) (fun k e => by cases e; omega)⟩
  case stop =>
    rintro D c pre W _ _ h _
    exact h.elim

set_option maxHeartbeats 1000000 in
theorem collect_in (F : Fence) (n : Nat) (h44 : F.fn 44) (h59 : F.fn 59) (hro : F.round = none) (hn : 3 ≤ n) (gf : Nat) (lb : Array Value) (hFg : F.fn gf) (eg : ∀ args w, (callFunc gf args).run Try.prog w = .ok (.enter gf args) w)
    (xs : List Int) (hx : xs.length * 8 ≤ 140737488355328) (n0 : Nat) (mine : Nat → Prop) (w : World) (hmw : ∀ k, mine k → k < w.heap.size) (hn0 : n0 ≤ w.heap.size)
    (hseq : SeqSep F (n - 1 - 1) Try.prog gf lb (fun x : Int => #[.int .i64 x]) xs n0 mine w) :
    CallsIn F n Try.prog 44 #[.func (.func gf) #[] lb] w fun e w' => ∃ v, e = .returned v ∧ w'.ownsRow n0 3 1 v xs.length (xs.map (Value.int .i64)) ∧ (v = .slice none 0 0 ↔ xs = []) ∧ Below n0 w w' := by
  have h1 : 1 ≤ n := by omega
  refine callsIn_of_wp Try.func44 rfl h44 ?_ hro
  simp only [Try.ntmps44, List.size_toArray, List.length_cons, List.length_nil, Nat.reduceAdd, Nat.reduceSub, Array.replicate_succ, Array.replicate_zero, List.push_toArray, List.append_toArray, List.nil_append, List.cons_append]
  have HX := Lib.hid hseq
  clear hseq
  gi_wp2_with (gi_at_call 59; refine (appendSeq_in F (n - 1) h59 hro (by omega) gf lb hFg eg xs hx n0 mine _ hmw hn0 HX.out).mono ?_; rintro e w' ⟨v, rfl, hrow, hnil, hb⟩)
  go_ret
  exact ⟨v, rfl, hrow, hnil, hb⟩
end Go.Proofs.Ytnnmhpplmihidaa
