/- The net of package link: Send, find, Len. -/
import Derived.Test.YtnnmhpplmihidaaNetOps
namespace Go.Proofs.Ytnnmhpplmihidaa
set_option linter.unusedVariables false
set_option linter.unusedSimpArgs false
open Go.RowKit

theorem Moved.of_below {n0 : Nat} {w w' : World} (O : Nat → Prop) (hb : Below w.heap.size w w') (h : n0 ≤ w.heap.size) : Moved n0 O w w' :=
  ⟨hb.mono h, fun k hk _ => hb.block k hk⟩

/-- Behind a call the net has L'; nothing else that lay before has turned. -/
def NetStep (n0 : Nat) (w : World) (O : Nat → Prop) (g : Nat) (peers : Int) (L' : Int × Int → List Fr) (mb : Nat) (w' : World) : Prop :=
  ∃ O' m', IsNet n0 w' O' g peers L' mb m' ∧ (∀ k, O' k → O k ∨ w.heap.size ≤ k) ∧ Moved n0 (fun k => ¬ O k) w w'

section
variable {n0 : Nat} {w : World} {O : Nat → Prop} {g : Nat} {peers : Int} {L : Int × Int → List Fr} {mb : Nat} {m : List ((Int × Int) × Value)}

theorem IsNet.hn0 (h : IsNet n0 w O g peers L mb m) : n0 ≤ w.heap.size := Nat.le_of_lt (Nat.lt_of_le_of_lt (h.ge _ h.og) (h.lt _ h.og))

theorem NetStep.same (h : IsNet n0 w O g peers L mb m) {w' : World} (hb : Below w.heap.size w w') : NetStep n0 w O g peers L mb w' :=
  ⟨O, m, h.moved (Moved.of_below _ hb h.hn0), fun k hk => .inl hk, Moved.of_below _ hb h.hn0⟩

theorem NetStep.drewN {L' : Int × Int → List Fr} {w' : World} (h : NetStep n0 w O g peers L' mb w') (n : Nat) : NetStep n0 w O g peers L' mb (w'.drewN n) := by
  obtain ⟨O', m', h1, h2, h3⟩ := h
  exact ⟨O', m', h1.moved (n1 := n0) (Moved.drew w' n), h2, h3.trans (Moved.drew w' n)⟩

theorem put_fresh (h : IsNet n0 w O g peers L mb m) {w2 : World} (hb : Below w.heap.size w w2) (a b : Int) (v : Value) (fs : List Fr) (hv : w2.ownsRow w.heap.size 94 2 v fs.length (frCells fs)) (h8 : fs.length ≤ 8) :
    Calls Try.prog 52 #[.pointer (some ⟨g, 0, none⟩), pk (a, b), v] w2 fun e w' => e = .returned (.tuple #[]) ∧ NetStep n0 w O g peers (upd L (a, b) fs) mb w' ∧ Moved n0 (fun k => k ≠ mb) w2 w' := by
  have hn0 := h.hn0
  have h2 := h.moved (Moved.of_below O hb hn0)
  have hm1 : Moved n0 (fun k => ¬ O k) w w2 := Moved.of_below _ hb hn0
  by_cases hne : fs = []
  · subst hne
    obtain ⟨A, c, rfl⟩ := own_shape hv
    refine (put_none h2 (Nat.le_trans hn0 hb.size) a b A c).mono ?_
    rintro e w' ⟨rfl, m', h3, hm⟩
    exact ⟨rfl, ⟨O, m', h3, fun k hk => .inl hk, hm1.trans (hm.mono fun k _ hk e => hk (e ▸ h.om))⟩, hm⟩
  · refine (put_some h2 (Nat.le_trans hn0 hb.size) a b v fs (own_lower hv hn0) hne h8).mono ?_
    rintro e w' ⟨rfl, m', h3, hm⟩
    refine ⟨rfl, ⟨_, m', h3, fun k hk => ?_, hm1.trans (hm.mono fun k _ hk e => hk (e ▸ h.om))⟩, hm⟩
    rcases hk with hk | hk
    · exact .inl hk
    · exact .inr (own_ge' hv k hk)

def sendM (peers : Int) (L : Int × Int → List Fr) (a b : Int) (s : ByteArray) : Int × (Int × Int → List Fr) :=
  if thereB peers a b = false then (11, L) else if s.size > 131072 then (2, L) else if (L (a, b)).length ≥ 8 then (4, L) else (0, upd L (a, b) (L (a, b) ++ [(s, s)]))

set_option maxHeartbeats 2000000 in
set_option maxRecDepth 100000 in
theorem send_net (h : IsNet n0 w O g peers L mb m) (a b : Int) (s : ByteArray) (hs : s.size ≤ maxLen) :
    Calls Try.prog 29 #[.pointer (some ⟨g, 0, none⟩), .int .i64 a, .int .i64 b, .string s] w fun e w' => e = .returned (.int .i64 (sendM peers L a b s).1) ∧ NetStep n0 w O g peers (sendM peers L a b s).2 mb w' := by
  have c0 := h.cell0
  have hn0 := h.hn0
  unfold maxLen at hs
  have HH := Lib.hid h
  by_cases ht : thereB peers a b = true
  · have hlist := list_net h a b ht
    have hm8 := h.most (a, b)
    by_cases hsz : s.size > 131072
    · have HF : Hid (sendM peers L a b s = (2, L)) := by simp [Hid, sendM, ht, hsz]
      have HL := Lib.hid hlist
      have HT := Lib.hid ht
      clear h hlist ht
      go_enter Try.func29, Try.ntmps29
      go_wp2_with (first
        | (go_at_call 50; refine HL.out.mono ?_; rintro e w' ⟨u, rfl, hrow, hO, rfl⟩)
        | (go_at_call 51; refine (there_net g peers a b _ c0).mono ?_; rintro e w' ⟨rfl, rfl⟩; rw [HT.out]))
      go_ret
      rw [HF.out]
      exact ⟨rfl, NetStep.same HH.out (Below.refl _ _)⟩
    · by_cases h8 : (L (a, b)).length ≥ 8
      · have HF : Hid (sendM peers L a b s = (4, L)) := by simp [Hid, sendM, ht, hsz, h8]
        have HL := Lib.hid hlist
        have HT := Lib.hid ht
        clear h hlist ht
        go_enter Try.func29, Try.ntmps29
        go_wp2_with (first
          | (go_at_call 50; refine HL.out.mono ?_; rintro e w' ⟨u, rfl, hrow, hO, rfl⟩; obtain ⟨A, c, rfl⟩ := own_shape hrow)
          | (go_at_call 51; refine (there_net g peers a b _ c0).mono ?_; rintro e w' ⟨rfl, rfl⟩; rw [HT.out]))
        go_ret
        rw [HF.out]
        exact ⟨rfl, NetStep.same HH.out (Below.refl _ _)⟩
      · have HF : Hid (sendM peers L a b s = (0, upd L (a, b) (L (a, b) ++ [(s, s)]))) := by simp [Hid, sendM, ht, hsz, h8]
        have HL := Lib.hid hlist
        have HT := Lib.hid ht
        clear h hlist ht
        go_enter Try.func29, Try.ntmps29
        go_wp2_with (first
          | (go_at_call 50; refine HL.out.mono ?_; rintro e w' ⟨u, rfl, hrow, hO, rfl⟩; obtain ⟨A, c, rfl⟩ := own_shape hrow)
          | (go_at_call 51; refine (there_net g peers a b _ c0).mono ?_; rintro e w' ⟨rfl, rfl⟩; rw [HT.out]))
        refine (clone_Fr _ _ _ (frCells_one _) (by omega) _ (Rd.of_own hrow)).mono ?_
        rintro e w1 ⟨v1, rfl, hv1, hb1⟩
        have hsz1 := hb1.size
        obtain ⟨i0, hi, hz0, hz1, hz2⟩ := info_parts info_Fr
        go_wp2_with ((at_builtin; refine wpList_append_lies _ rfl _ _ 87 rfl w.heap.size 94 i0 (.agg #[.string ByteArray.empty, .string ByteArray.empty]) 2 32 Try.underlying87 hi hz0 hz1 hz2 rfl (by decide) _ _ _ rfl (hv1.alloc _) ⟨w1.heap.size, 0, none⟩ 1 1 [.string s, .string s] rfl rfl (cells_new _ _ _) (by simp [Value.oneCell']) (by omega) (by unfold maxLen; omega) (by omega) (by simp; omega) (w1.heap.size + 1) (by simp) ?_; intro g' cap' w2 hown2 hgrow2 hlies2 hlt2))
        have hgrow3 : (w1.alloc (Obj.cells #[Value.string s, Value.string s] 94)).grownBy w2 v1.ownBlock := hgrow2
        have hb2 : Below w.heap.size w w2 := (hb1.alloc hsz1 _).grown hgrow3 (by simp; omega) (fun k hk => own_ge' hv1 k hk)
        rw [show frCells (L (a, b)) ++ [Value.string s, Value.string s] = frCells (L (a, b) ++ [(s, s)]) from by rw [frCells_append]; rfl] at hown2
        have hl2 : (L (a, b)).length + 1 = (L (a, b) ++ [(s, s)]).length := by simp
        refine (put_fresh HH.out hb2 a b _ (L (a, b) ++ [(s, s)]) (by rw [← hl2]; exact hown2) (by rw [← hl2]; omega)).mono ?_
        rintro e w3 ⟨rfl, hstep, _⟩
        go_wp2
        go_ret
        rw [HF.out]
        exact ⟨rfl, hstep⟩
  · have HF : Hid (sendM peers L a b s = (11, L)) := by simp at ht; simp [Hid, sendM, ht]
    have HT := Lib.hid (by simpa using ht : thereB peers a b = false)
    clear h ht
    go_enter Try.func29, Try.ntmps29
    go_wp2_with (first
      | (go_at_call 50; refine (list_none g c0 a b HT.out).mono ?_; rintro e w' ⟨rfl, rfl⟩)
      | (go_at_call 51; refine (there_net g peers a b _ c0).mono ?_; rintro e w' ⟨rfl, rfl⟩; rw [HT.out]))
    go_ret
    rw [HF.out]
    exact ⟨rfl, NetStep.same HH.out (Below.refl _ _)⟩
end
end Go.Proofs.Ytnnmhpplmihidaa
