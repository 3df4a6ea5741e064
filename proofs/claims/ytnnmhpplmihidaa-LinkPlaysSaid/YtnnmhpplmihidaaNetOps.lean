/- The net of package link: there, list, put. -/
import Derived.Deep.RegionLaw
import Derived.Maps.OwnOps
import Derived.Test.YtnnmhpplmihidaaNet
namespace Go.Proofs.Ytnnmhpplmihidaa
set_option linter.unusedVariables false
set_option linter.unusedSimpArgs false
open Go.RowKit

structure IsNet (n0 : Nat) (w : World) (O : Nat → Prop) (g : Nat) (peers : Int) (L : Int × Int → List Fr) (mb : Nat) (m : List ((Int × Int) × Value)) : Prop where
  cells : w.heap[g]? = some (.cells #[.int .i64 peers, .map (some mb)] 86 (0, 0))
  map : IsMap pk w mb m
  some_ : ∀ p v, aget m p = some v → ∃ u, v = .agg #[u] ∧ w.ownsRow n0 94 2 u (L p).length (frCells (L p)) ∧ (∀ k, u.ownBlock = some k → O k) ∧ L p ≠ []
  none_ : ∀ p, aget m p = none → L p = []
  og : O g
  om : O mb
  ge : ∀ k, O k → n0 ≤ k
  lt : ∀ k, O k → k < w.heap.size
  most : ∀ p, (L p).length ≤ 8
  few : 1 ≤ peers ∧ peers ≤ 64

theorem IsNet.moved {n0 n1 : Nat} {w w' : World} {O : Nat → Prop} {g : Nat} {peers : Int} {L : Int × Int → List Fr} {mb : Nat} {m : List ((Int × Int) × Value)} (h : IsNet n0 w O g peers L mb m) (hm : Moved n1 O w w') : IsNet n0 w' O g peers L mb m where
  cells := (hm.keep _ (h.lt _ h.og) h.og).trans h.cells
  map := h.map.same (hm.keep _ (h.lt _ h.om) h.om)
  some_ p v hp := by
    obtain ⟨u, h1, h2, h3, h4⟩ := h.some_ p v hp
    exact ⟨u, h1, own_keep h2 (fun k hk => hm.keep _ (own_lt' h2 k hk) (h3 k hk)), h3, h4⟩
  none_ := h.none_
  og := h.og
  om := h.om
  ge := h.ge
  lt k hk := Nat.lt_of_lt_of_le (h.lt k hk) hm.below.size
  most := h.most
  few := h.few

theorem run_min_ints {P : Program} (w : World) (ats : Array TypeId) (ty : TypeId) (a b : Int) : (Builtin.min_ ats ty #[.int .i64 a, .int .i64 b]).run P w = .ok (.int .i64 (if b < a then b else a)) w := by
  simp [Builtin.min_, Builtin.min2, Sem.run_bind, Result.andThen]
theorem run_max_ints {P : Program} (w : World) (ats : Array TypeId) (ty : TypeId) (a b : Int) : (Builtin.max_ ats ty #[.int .i64 a, .int .i64 b]).run P w = .ok (.int .i64 (if a < b then b else a)) w := by
  simp [Builtin.max_, Builtin.max2, Sem.run_bind, Result.andThen]

def thereB (peers a b : Int) : Bool := decide (a ≠ b ∧ 0 ≤ a ∧ 0 ≤ b ∧ a < peers ∧ b < peers)

set_option maxHeartbeats 1000000 in
set_option maxRecDepth 100000 in
theorem there_nil (a b : Int) (w : World) :
    Calls Try.prog 51 #[.pointer none, .int .i64 a, .int .i64 b] w fun e w' => e = .returned (.bool false) ∧ w = w' := by
  go_enter Try.func51, Try.ntmps51
  go_wp2
  go_ret
  exact ⟨rfl, rfl⟩

set_option maxHeartbeats 1000000 in
set_option maxRecDepth 100000 in
theorem there_net (g : Nat) (peers a b : Int) (w : World) (hc : w.cell? ⟨g, 0, none⟩ = some (.int .i64 peers)) :
    Calls Try.prog 51 #[.pointer (some ⟨g, 0, none⟩), .int .i64 a, .int .i64 b] w fun e w' => e = .returned (.bool (thereB peers a b)) ∧ w = w' := by
  by_cases h1 : a = b
  · have e : Hid (thereB peers a b = false) := by simp [Hid, thereB, h1]
    have c1 : (a != b) = false := by simpa using h1
    clear h1
    go_enter Try.func51, Try.ntmps51
    go_wp2
    go_ret
    exact ⟨by rw [e.out]; rfl, rfl⟩
  · have c1 : (a != b) = true := by simpa using h1
    obtain ⟨lo, hlo⟩ : ∃ lo, (if b < a then b else a) = lo := ⟨_, rfl⟩
    obtain ⟨hi, hhi⟩ : ∃ hi, (if a < b then b else a) = hi := ⟨_, rfl⟩
    have hmin := fun (w : World) (ats : Array TypeId) (ty : TypeId) => run_min_ints (P := Try.prog) w ats ty a b
    have hmax := fun (w : World) (ats : Array TypeId) (ty : TypeId) => run_max_ints (P := Try.prog) w ats ty a b
    rw [hlo] at hmin
    rw [hhi] at hmax
    have e : thereB peers a b = (decide (0 ≤ lo) && decide (hi < peers)) := by
      rw [Bool.eq_iff_iff]
      simp only [thereB, Bool.and_eq_true, decide_eq_true_eq]
      split at hlo <;> split at hhi <;> omega
    have HE := Lib.hid e
    clear e hlo hhi h1
    by_cases h2 : 0 ≤ lo
    · by_cases h3 : hi < peers
      · go_enter Try.func51, Try.ntmps51
        go_wp2
        go_ret
        exact ⟨by rw [HE.out]; simp [h2, h3], rfl⟩
      · go_enter Try.func51, Try.ntmps51
        go_wp2
        go_ret
        exact ⟨by rw [HE.out]; simp [h3], rfl⟩
    · go_enter Try.func51, Try.ntmps51
      go_wp2
      go_ret
      exact ⟨by rw [HE.out]; simp; omega, rfl⟩

theorem zero_queue (w : World) : (zeroValue 103).run Try.prog w = .ok (.agg #[.slice none 0 0]) w := by kernel_rfl

section
variable {n0 : Nat} {w : World} {O : Nat → Prop} {g : Nat} {peers : Int} {L : Int × Int → List Fr} {mb : Nat} {m : List ((Int × Int) × Value)}

theorem IsNet.cell0 (h : IsNet n0 w O g peers L mb m) : w.cell? ⟨g, 0, none⟩ = some (.int .i64 peers) := by
  have := h.cells; simp [World.cell?, this]
theorem IsNet.cell1 (h : IsNet n0 w O g peers L mb m) : w.cell? ⟨g, 1, none⟩ = some (.map (some mb)) := by
  have := h.cells; simp [World.cell?, this]

/-- What stands at a link. -/
theorem IsNet.at (h : IsNet n0 w O g peers L mb m) (p : Int × Int) : ∃ u, (aget m p).getD (.agg #[.slice none 0 0]) = .agg #[u] ∧ w.ownsRow n0 94 2 u (L p).length (frCells (L p)) ∧ ∀ k, u.ownBlock = some k → O k := by
  cases hg : aget m p with
  | none =>
    have := h.none_ p hg
    rw [this]
    exact ⟨_, rfl, ⟨rfl, .inl ⟨rfl, rfl⟩⟩, fun k hk => by simp [Value.ownBlock] at hk⟩
  | some v =>
    obtain ⟨u, rfl, h2, h3, _⟩ := h.some_ p v hg
    exact ⟨u, rfl, h2, h3⟩

set_option maxHeartbeats 1000000 in
set_option maxRecDepth 100000 in
theorem list_net (h : IsNet n0 w O g peers L mb m) (a b : Int) (ht : thereB peers a b = true) :
    Calls Try.prog 50 #[.pointer (some ⟨g, 0, none⟩), .int .i64 a, .int .i64 b] w fun e w' => ∃ u, e = .returned u ∧ w.ownsRow n0 94 2 u (L (a, b)).length (frCells (L (a, b))) ∧ (∀ k, u.ownBlock = some k → O k) ∧ w = w' := by
  have c0 := h.cell0
  have c1 := h.cell1
  obtain ⟨u, hu, hrow, hO⟩ := h.at (a, b)
  have hmap := h.map
  have hfld : ∀ w, (Instr.field 103 (.agg #[u]) 0).run Try.prog w = .ok u w := fun w => by kernel_rfl
  have HU := Lib.hid hu
  have HO := Lib.hid hO
  have HR := Lib.hid hrow
  have HT := Lib.hid ht
  clear hu hO hrow ht h
  go_enter Try.func50, Try.ntmps50
  go_wp2_with (first
    | (go_at_call 51; refine (there_net g peers a b _ c0).mono ?_; rintro e w' ⟨rfl, rfl⟩; rw [HT.out])
    | (at_lookup; refine wpList_lookup_map rfl _ _ 84 rfl pk_law Try.underlying84 (.agg #[.slice none 0 0]) (zero_queue _) rfl hmap (a, b) rfl ?_; rw [HU.out]))
  go_ret
  exact ⟨_, rfl, HR.out, HO.out, rfl⟩

set_option maxHeartbeats 1000000 in
set_option maxRecDepth 100000 in
theorem list_none (g : Nat) (c0 : w.cell? ⟨g, 0, none⟩ = some (.int .i64 peers)) (a b : Int) (ht : thereB peers a b = false) :
    Calls Try.prog 50 #[.pointer (some ⟨g, 0, none⟩), .int .i64 a, .int .i64 b] w fun e w' => e = .returned (.slice none 0 0) ∧ w = w' := by
  have HT := Lib.hid ht
  clear ht
  go_enter Try.func50, Try.ntmps50
  go_wp2_with (go_at_call 51; refine (there_net g peers a b _ c0).mono ?_; rintro e w' ⟨rfl, rfl⟩; rw [HT.out])
  go_ret
  exact ⟨rfl, rfl⟩

set_option maxHeartbeats 1000000 in
set_option maxRecDepth 100000 in
theorem list_nil (w : World) (a b : Int) :
    Calls Try.prog 50 #[.pointer none, .int .i64 a, .int .i64 b] w fun e w' => e = .returned (.slice none 0 0) ∧ w = w' := by
  go_enter Try.func50, Try.ntmps50
  go_wp2_with (go_at_call 51; refine (there_nil a b _).mono ?_; rintro e w' ⟨rfl, rfl⟩)
  go_ret
  exact ⟨rfl, rfl⟩

def upd (L : Int × Int → List Fr) (p : Int × Int) (fs : List Fr) : Int × Int → List Fr := fun q => if q = p then fs else L q

theorem own_ne_map {w : World} {base e size n : Nat} {v : Value} {xs : List Value} (h : w.ownsRow base e size v n xs) {mb : Nat} (hm : IsMap pk w mb m) (k : Nat) (hk : v.ownBlock = some k) : k ≠ mb := by
  obtain ⟨cs, hc⟩ := own_cells' h k hk
  obtain ⟨es, cl, hb, _⟩ := hm
  rintro rfl
  rw [hc] at hb; cases hb

theorem IsNet.put_some (h : IsNet n0 w O g peers L mb m) {w' : World} {v : Value} {fs : List Fr} (hv : w.ownsRow n0 94 2 v fs.length (frCells fs)) (hne : fs ≠ []) (h8 : fs.length ≤ 8) (p : Int × Int)
    (hm : Moved n0 (fun k => k ≠ mb) w w') (hmap : IsMap pk w' mb (aput m p (.agg #[v]))) : IsNet n0 w' (fun k => O k ∨ v.ownBlock = some k) g peers (upd L p fs) mb (aput m p (.agg #[v])) where
  cells := by
    have hgm : g ≠ mb := by
      rintro rfl
      obtain ⟨es, cl, hb, _⟩ := h.map
      rw [h.cells] at hb; cases hb
    exact (hm.keep _ (h.lt _ h.og) hgm).trans h.cells
  map := hmap
  some_ q u hq := by
    rw [aget_aput _ _ _ _ h.map.nodup] at hq
    by_cases e : q = p
    · rw [if_pos e] at hq
      cases hq
      refine ⟨v, rfl, ?_, fun k hk => .inr hk, ?_⟩
      · simp only [upd, if_pos e]
        exact own_keep hv (fun k hk => hm.keep _ (own_lt' hv k hk) (own_ne_map hv h.map k hk))
      · simp only [upd, if_pos e]; exact hne
    · rw [if_neg e] at hq
      obtain ⟨u', h1, h2, h3, h4⟩ := h.some_ q u hq
      simp only [upd, if_neg e]
      exact ⟨u', h1, own_keep h2 (fun k hk => hm.keep _ (own_lt' h2 k hk) (own_ne_map h2 h.map k hk)), fun k hk => .inl (h3 k hk), h4⟩
  none_ q hq := by
    rw [aget_aput _ _ _ _ h.map.nodup] at hq
    by_cases e : q = p
    · rw [if_pos e] at hq; cases hq
    · rw [if_neg e] at hq
      simp only [upd, if_neg e]
      exact h.none_ q hq
  og := .inl h.og
  om := .inl h.om
  ge k hk := by
    rcases hk with hk | hk
    · exact h.ge k hk
    · exact own_ge' hv k hk
  lt k hk := by
    rcases hk with hk | hk
    · exact Nat.lt_of_lt_of_le (h.lt k hk) hm.below.size
    · exact Nat.lt_of_lt_of_le (own_lt' hv k hk) hm.below.size
  most q := by
    unfold upd
    split
    · exact h8
    · exact h.most q
  few := h.few

theorem IsNet.put_none (h : IsNet n0 w O g peers L mb m) {w' : World} (p : Int × Int)
    (hm : Moved n0 (fun k => k ≠ mb) w w') (hmap : IsMap pk w' mb (adel m p)) : IsNet n0 w' O g peers (upd L p []) mb (adel m p) where
  cells := by
    have hgm : g ≠ mb := by
      rintro rfl
      obtain ⟨es, cl, hb, _⟩ := h.map
      rw [h.cells] at hb; cases hb
    exact (hm.keep _ (h.lt _ h.og) hgm).trans h.cells
  map := hmap
  some_ q u hq := by
    rw [aget_adel _ _ _ h.map.nodup] at hq
    by_cases e : q = p
    · rw [if_pos e] at hq; cases hq
    · rw [if_neg e] at hq
      obtain ⟨u', h1, h2, h3, h4⟩ := h.some_ q u hq
      simp only [upd, if_neg e]
      exact ⟨u', h1, own_keep h2 (fun k hk => hm.keep _ (own_lt' h2 k hk) (own_ne_map h2 h.map k hk)), h3, h4⟩
  none_ q hq := by
    rw [aget_adel _ _ _ h.map.nodup] at hq
    by_cases e : q = p
    · simp only [upd, if_pos e]
    · rw [if_neg e] at hq
      simp only [upd, if_neg e]
      exact h.none_ q hq
  og := h.og
  om := h.om
  ge := h.ge
  lt k hk := Nat.lt_of_lt_of_le (h.lt k hk) hm.below.size
  most q := by
    unfold upd
    split
    · simp
    · exact h.most q
  few := h.few

set_option maxHeartbeats 1000000 in
set_option maxRecDepth 100000 in
theorem put_none (h : IsNet n0 w O g peers L mb m) (hn0 : n0 ≤ w.heap.size) (a b : Int) (A : Option Addr) (c : Nat) :
    Calls Try.prog 52 #[.pointer (some ⟨g, 0, none⟩), pk (a, b), .slice A 0 c] w fun e w' => e = .returned (.tuple #[]) ∧ ∃ m', IsNet n0 w' O g peers (upd L (a, b) []) mb m' ∧ Moved n0 (fun k => k ≠ mb) w w' := by
  obtain ⟨W, hW⟩ : ∃ W, w.alloc (.cells #[.int .i64 a, .int .i64 b] 91) = W := ⟨_, rfl⟩
  have hmW : Moved n0 O w W := by rw [← hW]; exact Moved.alloc hn0 _
  have hW' := h.moved hmW
  have c1 := hW'.cell1
  have b0 : W.cell? ⟨w.heap.size, 0, none⟩ = some (.int .i64 a) := by
    have hb := World.alloc_heap_new w (.cells #[.int .i64 a, .int .i64 b] 91)
    rw [hW] at hb
    simp [World.cell?, hb]
  have b1 : W.cell? ⟨w.heap.size, 1, none⟩ = some (.int .i64 b) := by
    have hb := World.alloc_heap_new w (.cells #[.int .i64 a, .int .i64 b] 91)
    rw [hW] at hb
    simp [World.cell?, hb]
  have hmd : IsMap pk W.drew mb m := hW'.map.same rfl
  have HH := Lib.hid hW'
  have HM := Lib.hid hmd
  clear hW' hmd h
  unfold pk
  go_enter Try.func52, Try.ntmps52
  go_wp2
  go_region_law (refine step_delete_map rfl _ _ 84 91 rfl pk_law Try.underlying84 rfl HM.out (a, b) rfl ?_; intro w2 hm2 hg2 hs2)
  all_goals
    go_wp2
    refine bodyPost_ret (v := .tuple #[]) (results_none rfl _ _ _) rfl ?_
    have hmv : Moved n0 (fun k => k ≠ mb) W w2 := (Moved.drew W 1).trans (Moved.grown hg2 (by have := hmW.below.size; show n0 ≤ W.heap.size; omega) (fun k e => by cases e; exact ⟨HH.out.ge _ HH.out.om, fun h => h rfl⟩))
    exact ⟨rfl, _, HH.out.put_none (a, b) hmv hm2, (by rw [← hW]; exact Moved.alloc hn0 _ : Moved n0 (fun k => k ≠ mb) w W).trans hmv⟩

set_option maxHeartbeats 1000000 in
set_option maxRecDepth 100000 in
theorem put_some (h : IsNet n0 w O g peers L mb m) (hn0 : n0 ≤ w.heap.size) (a b : Int) (v : Value) (fs : List Fr) (hv : w.ownsRow n0 94 2 v fs.length (frCells fs)) (hne : fs ≠ []) (h8 : fs.length ≤ 8) :
    Calls Try.prog 52 #[.pointer (some ⟨g, 0, none⟩), pk (a, b), v] w fun e w' => e = .returned (.tuple #[]) ∧ ∃ m', IsNet n0 w' (fun k => O k ∨ v.ownBlock = some k) g peers (upd L (a, b) fs) mb m' ∧ Moved n0 (fun k => k ≠ mb) w w' := by
  obtain ⟨W, hW⟩ : ∃ W, w.alloc (.cells #[.int .i64 a, .int .i64 b] 91) = W := ⟨_, rfl⟩
  have hmW : Moved n0 O w W := by rw [← hW]; exact Moved.alloc hn0 _
  have hW' := h.moved hmW
  have c1 := hW'.cell1
  have b0 : W.cell? ⟨w.heap.size, 0, none⟩ = some (.int .i64 a) := by
    have hb := World.alloc_heap_new w (.cells #[.int .i64 a, .int .i64 b] 91)
    rw [hW] at hb
    simp [World.cell?, hb]
  have b1 : W.cell? ⟨w.heap.size, 1, none⟩ = some (.int .i64 b) := by
    have hb := World.alloc_heap_new w (.cells #[.int .i64 a, .int .i64 b] 91)
    rw [hW] at hb
    simp [World.cell?, hb]
  have hvW : W.ownsRow n0 94 2 v fs.length (frCells fs) := by rw [← hW]; exact hv.alloc _
  have hmd : IsMap pk W.drew mb m := hW'.map.same rfl
  have HH := Lib.hid hW'
  have HM := Lib.hid hmd
  have HV := Lib.hid hvW
  obtain ⟨A, c, rfl⟩ := own_shape hv
  have hlen : 0 < fs.length := by cases fs with | nil => exact absurd rfl hne | cons x y => simp
  have HN := Lib.hid hne
  obtain ⟨ob, hrun, hm2⟩ := hmd.update pk_law Try.underlying84 (a, b) (.agg #[.slice A fs.length c])
  have hmv : Moved n0 (fun k => k ≠ mb) W (W.drew.putObj mb ob) := (Moved.drew W 1).trans (Moved.putObj _ _ _ (hW'.ge _ hW'.om) (hW'.lt _ hW'.om) (fun h => h rfl))
  have HMV := Lib.hid hmv
  have HM2 := Lib.hid hm2
  unfold pk at hrun
  clear hm2 hmv
  clear hW' hmd h hv hvW hne
  unfold pk
  go_enter Try.func52, Try.ntmps52
  go_wp2
  all_goals go_region
  all_goals
    go_wp2
    go_end0
    exact ⟨rfl, _, HH.out.put_some HV.out HN.out h8 (a, b) HMV.out HM2.out, (by rw [← hW]; exact Moved.alloc hn0 _ : Moved n0 (fun k => k ≠ mb) w W).trans HMV.out⟩
end
end Go.Proofs.Ytnnmhpplmihidaa
