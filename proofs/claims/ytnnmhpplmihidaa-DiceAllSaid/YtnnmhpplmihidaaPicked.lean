/- The iterator behind dice.Order gives the numbers in the order that the draw tells. -/
import Derived.RangeFuncNested
import Derived.RangeFuncBound
import Derived.RangeFuncCalls
import Derived.RangeFuncLeaves
import Derived.RangeFuncBox
import Derived.Shelf.Abstract
import Derived.Shelf.RegionOpen
import Derived.WalkKit
import Derived.OwnWalkIn
import Derived.TacticsInMore
import Derived.LoopNIn
import Derived.LoopIn
import Derived.Maps.AppendAt
import Derived.Lib.Hide
import Derived.Lib.OwnBridge
import Derived.Test.YtnnmhpplmihidaaProg
import Derived.Test.YtnnmhpplmihidaaShelf
import Derived.Test.YtnnmhpplmihidaaSep
import Derived.Test.YtnnmhpplmihidaaOrd
import Derived.Test.YtnnmhpplmihidaaCollect
namespace Go.Proofs.Ytnnmhpplmihidaa
set_option linter.unusedVariables false
set_option linter.unusedSimpArgs false
open Go.RowKit Go.Shelf
attribute [local go_sem] Oper.semAt_some

theorem own_base' {w : World} {base : Nat} {e : TypeId} {size n : Nat} {v : Value} {xs : List Value} (h : w.ownsRow base e size v n xs) (k : Nat) (hk : v.ownBlock = some k) : base ≤ k := by
  rcases h.2 with ⟨rfl, _⟩ | ⟨g, cap, cur, rfl, hg, _⟩
  · simp [Value.ownBlock] at hk
  · have : g = k := by simpa [Value.ownBlock] using hk
    omega

theorem _root_.Go.World.ownsRow.same' {w w1 : World} {base : Nat} {e : TypeId} {size n g l cap : Nat} {xs : List Value} (h : w.ownsRow base e size (.slice (some ⟨g, 0, none⟩) l cap) n xs) (hm : w1.heap[g]? = w.heap[g]?) : w1.ownsRow base e size (.slice (some ⟨g, 0, none⟩) l cap) n xs := by
  obtain ⟨h1, h2⟩ := h
  refine ⟨h1, ?_⟩
  rcases h2 with h2 | ⟨g', cap', cur, e', hg, hh, r⟩
  · exact .inl h2
  · simp only [Value.slice.injEq, Option.some.injEq, Addr.mk.injEq, and_true, true_and] at e'
    obtain ⟨rfl, rfl, rfl⟩ := e'
    exact .inr ⟨g, cap, cur, rfl, hg, hm.trans hh, r⟩

theorem Moved.putRow {α : Type} [Inhabited α] {n0 : Nat} {O : Nat → Prop} (enc : α → Value) (W : World) (q g : Nat) (d : Array α) (hg : n0 ≤ g) (ho : ¬ O g) : Moved n0 O W (Sort.putRow enc (Sort.ahead W q) g 0 d) :=
  ⟨Lib.below_putRow (Below.refl _ _) hg, fun k _ hk => by
    have : g ≠ k := fun e => ho (e ▸ hk)
    simp [Sort.putRow, Sort.mapBlock, Sort.ahead, Array.getElem?_modify, this]⟩

theorem wrap_u64_mod (d : Int) : IntKind.u64.wrap d = d % 18446744073709551616 := by
  unfold IntKind.wrap
  simp [IntKind.signed, IntKind.bits]

def Apart (O : Nat → Prop) (v : Value) : Prop := ∀ b, v.ownBlock = some b → ¬ O b

set_option maxHeartbeats 1000000 in
set_option maxRecDepth 100000 in
theorem picked1_sep (n : Nat) (hn : 2 ≤ n) (Bd Bn n0 d k : Nat) (hk : k ≤ 1000) (hd64 : d < 18446744073709551616) (w : World)
    (hd : Boxed w Bd 27 (.int .u64 d)) (hk' : Boxed w Bn 3 (.int .i64 k)) (h0d : n0 ≤ Bd) (h0n : n0 ≤ Bn) :
    SeqSep Fence.wide n Try.prog 60 #[.pointer (some ⟨Bn, 0, none⟩), .pointer (some ⟨Bd, 0, none⟩)] (fun x : Int => #[.int .i64 x]) (ordI d k) n0 (fun b => b = Bd ∨ b = Bn) w := by
  intro l J Jx O W hmv hOm hJ hlt hY h0
  obtain ⟨i0, hi, hz0, hz1, hz2⟩ := info_parts infoInt
  have HJ := Lib.hid hJ
  have HL := Lib.hid hlt
  have HY := Lib.hid hY
  have HO := Lib.hid hOm
  have hdW : Boxed W Bd 27 (.int .u64 d) := (hmv.keep _ hd.lt (.inl rfl)).trans hd
  have hnW : Boxed W Bn 3 (.int .i64 k) := (hmv.keep _ hk'.lt (.inr rfl)).trans hk'
  have hcn := hnW.cell
  clear hJ hlt hY hOm
  refine callsIn_of_wp Try.func60 rfl trivial ?_ rfl
  simp only [Try.ntmps60, List.size_toArray, List.length_cons, List.length_nil, Nat.reduceAdd, Nat.reduceSub, Array.replicate_succ, Array.replicate_zero, List.push_toArray, List.append_toArray, List.nil_append, List.cons_append]
  gi_wp2
  gi_loopw [4, 9] (fun v i wr => ∃ j : Nat, j ≤ k ∧ i = .int .i64 j ∧ wr.ownsRow n0 3 1 v j ((iota j).map (Value.int .i64)) ∧ Apart O v ∧ J [] O wr ∧ Boxed wr Bd 27 (.int .u64 d)) (fun _ i _ => k - (intOf i).toNat)
  case atStart => exact ⟨0, Nat.zero_le _, rfl, ⟨rfl, .inl ⟨rfl, rfl⟩⟩, fun b h => by simp [Value.ownBlock] at h, h0, hdW⟩
  case round =>
    obtain ⟨j, hj, rfl, hrow, hap, hJ0, hb⟩ := hrel
    by_cases hlt : j < k
    · have hlen : (iota j).length = j := iota_length j
      gi_wp2_with ((gi_at_builtin; refine wpListIn_append_lies _ rfl _ _ 24 rfl n0 3 i0 (.int .i64 0) 1 8 Try.underlying24 hi hz0 hz1 hz2 rfl (by decide) _ _ _ rfl (hrow.alloc _) ⟨wr.heap.size, 0, none⟩ 1 1 [.int .i64 j] rfl rfl (cell_one_new _ _ _) (by simp [Value.oneCell']) (by omega) (by unfold maxLen; omega) (by omega) (by have := (HL.out _ _ _ hJ0).1; simp; omega) (wr.heap.size + 1) (by simp) ?_; intro g' cap' w1 hown' hgrow hlies hlt'))
      replace hlies : u4.ownBlock = some g' ∨ g' = wr.heap.size + 1 := hlies
      replace hgrow : (wr.alloc (Obj.cells #[Value.int IntKind.i64 j] 3)).grownBy w1 u4.ownBlock := hgrow
      obtain ⟨hn1, hO1⟩ := HL.out _ _ _ hJ0
      refine ⟨⟨j + 1, hlt, by simp, by rw [iota_succ, List.map_append]; exact hown', fun b hb' => ?_, HJ.out _ _ _ _ hJ0 ((Moved.alloc hn1 _).trans (Moved.grown hgrow (by simp; omega) fun b hb' => ⟨?_, hap b hb'⟩)), (hb.alloc _).kept hgrow (hb.not_row (by decide) hrow)⟩, by simp [intOf]; omega⟩
      · obtain rfl : g' = b := by simpa [Value.ownBlock] using hb'
        rcases hlies with h | h
        · exact hap _ h
        · intro ho; have := hO1 _ ho; omega
      · exact own_base' hrow b hb'
    · obtain rfl : j = k := by omega
      clear hdW hlt
      gi_wp2
      gi_loopw [4] (fun v wr => ∃ (m dr : Nat) (pre left : List Int) (O' : Nat → Prop), wr.ownsRow n0 3 1 v m (left.map (Value.int .i64)) ∧ ordI d j = pre ++ ordN m dr left ∧ m ≤ j ∧ dr < 18446744073709551616 ∧ Apart O' v ∧ (∀ b, b = Bd → ¬ O' b) ∧ J pre O' wr ∧ Boxed wr Bd 27 (.int .u64 dr)) (fun v _ => match v with | .slice _ n _ => n | _ => 0)
      case atStart => exact ⟨j, d, [], iota j, O, hrow, rfl, Nat.le_refl _, hd64, hap, fun b h => HO.out b (.inl h), hJ0, hb⟩
      case round =>
        obtain ⟨m, dr, pre, left, O', hrow, hx, hm, hdr, hap, hO', hJ', hb⟩ := hrel
        have HX := Lib.hid hx
        have HO' := Lib.hid hO'
        have HA := Lib.hid hap
        clear hx hO' hap
        cases m with
        | zero =>
          obtain ⟨a0, c0, hv0⟩ : ∃ a c, u4 = .slice a 0 c := by
            rcases hrow.2 with ⟨rfl, _⟩ | ⟨g, cap, cur, rfl, _⟩
            · exact ⟨_, _, rfl⟩
            · exact ⟨_, _, rfl⟩
          subst hv0
          gi_wp2
          go_end0
          refine ⟨⟨_, rfl⟩, .inl ⟨O', ?_⟩⟩
          rw [HX.out]
          simpa [ordN] using hJ'
        | succ m =>
          obtain ⟨g, cap, rfl, hg0, hglt⟩ := hrow.form (Nat.succ_pos _)
          have hcb := hb.cell
          have hfb := hb.frozen
          have hr0 : 0 ≤ (dr : Int) % ((m : Int) + 1) := Int.emod_nonneg _ (by omega)
          have hr1 : (dr : Int) % ((m : Int) + 1) < (m : Int) + 1 := Int.emod_lt_of_pos _ (by omega)
          have hq0 : 0 ≤ (dr : Int) / ((m : Int) + 1) := Int.ediv_nonneg (by omega) (by omega)
          have hq1 : (dr : Int) / ((m : Int) + 1) ≤ 18446744073709551615 := Int.le_trans (Int.ediv_le_self _ (by omega)) (by omega)
          have hmod : dr % (m + 1) < m + 1 := Nat.mod_lt _ (by omega)
          have hll : left.length = m + 1 := by simpa using hrow.1
          have hgB : Bd ≠ g := fun e => hb.not_row (by decide) hrow (by simp [Value.ownBlock, e])
          obtain ⟨x, hxx⟩ : ∃ x, left.getD (dr % (m + 1)) 0 = x := ⟨_, rfl⟩
          have hcx : wr.cell? ⟨g, dr % (m + 1), none⟩ = some (.int .i64 x) := by
            rw [hrow.cellAt (dr % (m + 1)) (by omega), ← hxx, List.getElem?_map, List.getElem?_eq_getElem (by omega), List.getD_eq_getElem?_getD, List.getElem?_eq_getElem (by omega)]
            rfl
          have HXX := Lib.hid hxx
          have HLL := Lib.hid hll
          have hxd : ordI d j = (pre ++ [x]) ++ ordN m (dr / (m + 1)) (left.eraseIdx (dr % (m + 1))) := by
            rw [HX.out, ordN, hxx]; simp
          have hJ2 : J pre O' (wr.setCell ⟨Bd, 0, none⟩ (.int .u64 ((dr : Int) / ((m : Int) + 1)))) :=
            HJ.out _ _ _ _ hJ' (Moved.setCell _ _ _ h0d (HO'.out _ rfl))
          obtain ⟨fn, tmps, assign, body, hy, hR⟩ := HY.out pre O' x _ hJ2 ⟨_, hxd.symm⟩
          have HXD := Lib.hid hxd
          have HR := Lib.hid hR
          clear hxx hll hxd hR
          gi_wp2
          refine ⟨fun _ => by omega, HR.out.mono ?_⟩
          rintro e W' (⟨rfl, hm', O2, hO2, hJ3⟩ | ⟨rfl, hJx⟩)
          · have hgO : ¬ O' g := HA.out _ rfl
            have hrow1 : (wr.setCell ⟨Bd, 0, none⟩ (.int .u64 ((dr : Int) / ((m : Int) + 1)))).ownsRow n0 3 1 (.slice (some ⟨g, 0, none⟩) (m + 1) cap) (m + 1) (left.map (Value.int .i64)) := hrow.kept (grownBy_setCell' _ _ _) (by simp [Value.ownBlock]; omega)
            have hrow2 : W'.ownsRow n0 3 1 (.slice (some ⟨g, 0, none⟩) (m + 1) cap) (m + 1) (left.map (Value.int .i64)) := hrow1.same' (hm'.keep _ (by simpa using hglt) hgO)
            have hb2 : Boxed W' Bd 27 (.int .u64 ((dr / (m + 1) : Nat) : Int)) := (hm'.keep _ (by simpa using hb.lt) (HO'.out _ rfl)).trans (hb.set (.int .u64 ((dr : Int) / ((m : Int) + 1))))
            obtain ⟨g', cap', hv', _, _, hnc, hcm, hzl, hHold⟩ := Lib.holds_of_ownsRow hrow2 (by simp)
            simp only [Value.slice.injEq, Option.some.injEq, Addr.mk.injEq, and_true, true_and] at hv'
            obtain ⟨rfl, rfl⟩ := hv'
            have hdel := Try.slices_Delete_int g 0 cap (dr % (m + 1)) (dr % (m + 1) + 1) left W' hHold (by omega) hcm (by omega) (by rw [HLL.out]; omega)
            rw [HLL.out, show ((dr % (m + 1) + 1 : Nat) : Int) = (dr : Int) % ((m : Int) + 1) + 1 from by simp, show ((dr % (m + 1) : Nat) : Int) = (dr : Int) % ((m : Int) + 1) from by simp] at hdel
            have HD := Lib.hid hdel
            clear hdel hHold
            gi_wp2
            refine ⟨trivial, fun _ => by omega, (callsIn_wide.2 HD.out).mono ?_⟩
            rintro e W3 ⟨rfl, q, rfl⟩
            gi_wp2
            have hys : (left.take (dr % (m + 1)) ++ (left.drop (dr % (m + 1) + 1) ++ [0])).length = m + 1 := by have := HLL.out; simp; omega
            have htk : (left.take (dr % (m + 1)) ++ (left.drop (dr % (m + 1) + 1) ++ [0])).take m = left.eraseIdx (dr % (m + 1)) := by
              have := HLL.out
              rw [List.eraseIdx_eq_take_drop_succ, ← List.append_assoc, List.take_append_of_le_length (by simp; omega), List.take_of_length_le (by simp; omega)]
            have hr3 := Lib.ownsRow_putRow (q := q) (k := m) hrow2 hys (by omega)
            rw [htk] at hr3
            have hm3 : ∀ O, ¬ O g → Moved n0 O W' (Sort.putRow (Value.int .i64) (Sort.ahead W' q) g 0 (left.take (dr % (m + 1)) ++ (left.drop (dr % (m + 1) + 1) ++ [0])).toArray) := fun O ho => Moved.putRow _ _ _ _ _ hg0 ho
            have hO2g : ¬ O2 g := fun h => by
              rcases hO2 _ h with h | h
              · exact hgO h
              · simp at h; omega
            refine ⟨⟨m, dr / (m + 1), pre ++ [x], left.eraseIdx (dr % (m + 1)), O2, hr3, HXD.out, by omega, Nat.lt_of_le_of_lt (Nat.div_le_self _ _) hdr, fun b hb' => ?_, fun b hb' h => ?_, HJ.out _ _ _ _ hJ3 (hm3 _ hO2g), ?_⟩, by simp⟩
            · obtain rfl : g = b := by simpa [Value.ownBlock] using hb'
              exact hO2g
            · have hlt : b < wr.heap.size := by
                subst hb'
                exact hb.lt
              rcases hO2 _ h with h | h
              · exact HO'.out _ hb' h
              · simp at h; omega
            · exact ((hm3 (fun b => b = Bd) (fun e => hgB e.symm)).keep _ hb2.lt rfl).trans hb2
          · gi_wp2
            refine bodyPost_ret (v := .tuple #[]) (results_none rfl _ _ _) rfl ?_
            exact ⟨⟨_, rfl⟩, .inr ⟨_, ⟨_, HXD.out.symm⟩, hJx⟩⟩

set_option maxHeartbeats 1000000 in
theorem picked_any (d k : Int) (w : World) :
    Calls Try.prog 45 #[.int .u64 d, .int .i64 k] w fun e w' => e = .returned (.func (.func 60) #[] #[.pointer (some ⟨w.heap.size + 1, 0, none⟩), .pointer (some ⟨w.heap.size, 0, none⟩)]) ∧
      w' = (w.alloc (.cells #[.int .u64 d] 27)).alloc (.cells #[.int .i64 k] 3) := by
  go_enter Try.func45, Try.ntmps45
  go_wp2
  go_ret
  exact ⟨rfl, rfl⟩

/-- dice.Order: nothing for a number out of its bounds. -/
theorem order_none (d k : Int) (h : k < 1 ∨ 1000 < k) (w : World) :
    Calls Try.prog 13 #[.int .i64 d, .int .i64 k] w fun e w' => e = .returned (.slice none 0 0) ∧ ∃ n, w' = w.drewN n := by
  rcases h with h | h
  · go_enter Try.func13, Try.ntmps13
    go_wp2
    go_ret
    exact ⟨rfl, 0, rfl⟩
  · have h' : ¬ k < 1 := by omega
    go_enter Try.func13, Try.ntmps13
    go_wp2
    go_ret
    exact ⟨rfl, 0, rfl⟩

set_option maxHeartbeats 1000000 in
theorem order_some (d : Int) (k : Nat) (h1 : 1 ≤ k) (h2 : k ≤ 1000) (w : World) :
    Calls Try.prog 13 #[.int .i64 d, .int .i64 k] w fun e w' => ∃ v, e = .returned v ∧ w'.ownsRow w.heap.size 3 1 v k ((ordI (IntKind.u64.wrap d).toNat k).map (Value.int .i64)) ∧ Below w.heap.size w w' := by
  obtain ⟨dn, hdn, hd64⟩ : ∃ dn : Nat, IntKind.u64.wrap d = dn ∧ dn < 18446744073709551616 := by
    have e := wrap_u64_mod d
    have h0 : 0 ≤ IntKind.u64.wrap d := by omega
    have h1 : IntKind.u64.wrap d < 18446744073709551616 := by omega
    exact ⟨(IntKind.u64.wrap d).toNat, by omega, by omega⟩
  have hcol := collect_in Fence.wide 5 trivial trivial rfl (by omega) 60 #[.pointer (some ⟨w.heap.size + 1, 0, none⟩), .pointer (some ⟨w.heap.size, 0, none⟩)] trivial (enters_of Try.func60 (by kernel_rfl) rfl)
    (ordI dn k) (by rw [ordI_length]; omega) w.heap.size (fun b => b = w.heap.size ∨ b = w.heap.size + 1) ((w.alloc (.cells #[.int .u64 dn] 27)).alloc (.cells #[.int .i64 k] 3)) (by rintro k (rfl | rfl) <;> simp <;> omega) (by simp; omega)
    (picked1_sep 3 (by omega) w.heap.size (w.heap.size + 1) w.heap.size dn k h2 hd64 _ ((Boxed.new _ _ _).alloc _) (by have := Boxed.new (w.alloc (.cells #[.int .u64 dn] 27)) 3 (.int .i64 k); simpa using this) (Nat.le_refl _) (by omega))
  have HC := Lib.hid (callsIn_wide.1 hcol)
  have HD := Lib.hid hdn
  clear hcol hdn
  go_enter Try.func13, Try.ntmps13
  go_wp2_with (go_at_call 45; refine (picked_any _ _ _).mono ?_; rintro e w' ⟨rfl, rfl⟩)
  rw [HD.out]
  refine HC.out.mono ?_
  rintro e w' ⟨v, rfl, hrow, _, hb⟩
  go_wp2
  go_ret
  refine ⟨v, rfl, ?_, ?_⟩
  · rw [HD.out, Int.toNat_natCast]
    rw [ordI_length] at hrow
    exact hrow
  · exact (((Below.refl _ _).alloc (Nat.le_refl _) _).alloc (by simp) _).trans hb
end Go.Proofs.Ytnnmhpplmihidaa
