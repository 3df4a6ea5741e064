/- package shrink: Least. -/
import Derived.StillTailTactics
import Derived.WalkMore
import Derived.IntWalk
import Derived.Deep.QuietTactic
import Derived.BigQuiet
import Derived.Deep.LoopGhost
import Derived.Test.YtnnmhpplmihidaaLeastPure
import Derived.Deep.DeepCutAuto
namespace Go.Proofs.Ytnnmhpplmihidaa
set_option linter.unusedVariables false
set_option linter.unusedSimpArgs false
open Go.RowKit

theorem equalIn_func_nil (w : World) (d : Nat) (F : FuncId) (cap : Array Value) : (Op.equalIn (d + 1) 38 (.func (.func F) #[] cap) .nilFunc).run Try.prog w = .ok false w := by
  simp [Op.equalIn, run_underlying Try.underlying38]

theorem equalIn_nil_nil (w : World) (d : Nat) : (Op.equalIn (d + 1) 38 .nilFunc .nilFunc).run Try.prog w = .ok true w := by
  simp [Op.equalIn, run_underlying Try.underlying38]

theorem eql_func_nil (w : World) (F : FuncId) (cap : Array Value) : (binOp .eql 38 (.func (.func F) #[] cap) .nilFunc).run Try.prog w = .ok (.bool false) w := by
  simp only [binOp]
  simp [Op.equal, Op.maxDepth, equalIn_func_nil w 9999 F cap]

theorem eql_nil_nil (w : World) : (binOp .eql 38 .nilFunc .nilFunc).run Try.prog w = .ok (.bool true) w := by
  simp only [binOp]
  simp [Op.equal, Op.maxDepth, equalIn_nil_nil w 9999]

/-- Between two of Least's steps. -/
structure LeastAt (w wr : World) (b : Nat) (F : FuncId) (cap : Array Value) (out : List Int) (n : Nat) (Ao : Option Addr) (co : Nat) : Prop where
  ask : AskAt wr b F cap n
  row : wr.ownsRow w.heap.size 34 8 (.slice Ao out.length co) out.length (opsC out)
  below : Below w.heap.size w wr
  bge : w.heap.size ≤ b

theorem row_some {w : World} {base : Nat} {e : TypeId} {size n : Nat} {v : Value} {xs : List Value} (h : w.ownsRow base e size v n xs) (hn : 0 < n) : ∃ g c, v = .slice (some ⟨g, 0, none⟩) n c := by
  rcases h.2 with ⟨_, rfl⟩ | ⟨g, cap, cur, rfl, _⟩
  · omega
  · exact ⟨_, _, rfl⟩

theorem row_ne {wr : World} {b n k : Nat} {F : FuncId} {cap : Array Value} {v : Value} {xs : List Value} {base m : Nat} (h : wr.ownsRow base 34 8 v m xs) (ha : AskAt wr b F cap n) (hk : v.ownBlock = some k) : k ≠ b := by
  intro e
  subst e
  obtain ⟨cs, hcs⟩ := own_cells' h k hk
  unfold AskAt at ha
  rw [hcs] at ha
  simp at ha

theorem leastPass_succ (K : List Int → Bool) (d : Nat) (out : List Int) (i n : Nat) (less : Bool) : leastPass K (d + 1) out i n less =
    if askB K n (out.take i ++ out.drop (i + 1)) = true then leastPass K d (out.take i ++ out.drop (i + 1)) i (askN n) true else leastPass K d out (i + 1) (askN n) less := rfl

theorem addr_at (g o j : Nat) : (⟨g, o, none⟩ : Addr).add j = ⟨g, o + j, none⟩ := by
  unfold Addr.add
  split
  · rename_i h
    simp_all
  · rfl

theorem concat_least {w wr : World} {b : Nat} {F : FuncId} {cap : Array Value} {out : List Int} {nn g c1 i : Nat} (h : LeastAt w wr b F cap out nn (some ⟨g, 0, none⟩) c1) (hi : i < out.length) (hl : out.length ≤ 1000) (ca cb : Nat) (ad2 : Addr) (had : ad2 = ⟨g, (i + 1) * 8, none⟩ ∨ i + 1 = out.length) (rs : List Int) (hrs : out.take i ++ out.drop (i + 1) = rs) :
    Calls Try.prog 49 #[.slice (some ⟨wr.heap.size, 0, none⟩) 2 2] (wr.alloc (.cells #[.slice (some ⟨g, 0, none⟩) i ca, .slice (some ad2) (out.length - (i + 1)) cb] 32)).drew fun e w' =>
      ∃ A2 c2, e = .returned (.slice A2 rs.length c2) ∧ w'.ownsRow wr.heap.size 34 8 (.slice A2 rs.length c2) rs.length (opsC rs) ∧ Below wr.heap.size wr w' := by
  subst hrs
  have hb : Below wr.heap.size wr (wr.alloc (.cells #[.slice (some ⟨g, 0, none⟩) i ca, .slice (some ad2) (out.length - (i + 1)) cb] 32)).drew := ((Below.refl _ _).alloc (Nat.le_refl _) _).drew
  have hcell : ∀ j u, (opsC out)[j]? = some u → (wr.alloc (.cells #[.slice (some ⟨g, 0, none⟩) i ca, .slice (some ad2) (out.length - (i + 1)) cb] 32)).drew.cell? ⟨g, j, none⟩ = some u := fun j u hj => by
    have h1 := h.row.cells (g := g) rfl j u hj
    rw [addr_add] at h1
    exact cell_below hb h1
  have e1 : (out.take i).length = i := by simp; omega
  have e2 : (out.drop (i + 1)).length = out.length - (i + 1) := by simp
  have e3 : (out.take i ++ out.drop (i + 1)).length = i + (out.length - (i + 1)) := by rw [List.length_append, e1, e2]
  refine (concat_Op wr.heap.size ⟨g, 0, none⟩ ad2 i ca (out.length - (i + 1)) cb (opsC (out.take i)) (opsC (out.drop (i + 1))) (by omega) (wr.alloc (.cells #[.slice (some ⟨g, 0, none⟩) i ca, .slice (some ad2) (out.length - (i + 1)) cb] 32)).drew ?_ (by rw [opsC_length, e1]) (by rw [opsC_length, e2]) ?_ ?_ (opsC_one _) (opsC_one _)).mono ?_
  · exact World.alloc_heap_new _ _
  · intro j u hj
    rw [addr_add]
    refine hcell j u ?_
    rw [← opsC_take, List.getElem?_take] at hj
    split at hj
    · exact hj
    · cases hj
  · intro j u hj
    rcases had with rfl | he
    · rw [addr_at]
      refine hcell _ u ?_
      rw [← opsC_drop, List.getElem?_drop] at hj
      exact hj
    · rw [he, List.drop_length] at hj
      simp [opsC] at hj
  · rintro e w' ⟨v', rfl, h1, h2⟩
    rw [← opsC_append, ← e3] at h1
    obtain ⟨A2, c2, rfl⟩ := own_shape h1
    refine ⟨A2, c2, rfl, own_lower h1 hb.size, hb.trans (h2.mono hb.size)⟩

/-- What holds at the label. -/
def LeastJ (w : World) (F : FuncId) (cap : Array Value) (K : List Int → Bool) (A : Option Addr) (l : List Int) (c : Nat) (a' : Act) (wr : World) : Prop :=
  ∃ (b : Nat) (out : List Int) (n f : Nat) (Ao : Option Addr) (co : Nat) (u2 u3 u8 u9 u10 u11 u12 u13 u14 u15 u16 u17 u18 u19 u20 u21 u22 u23 u24 u25 u26 u27 u28 u29 u30 u31 u32 u33 u34 u35 u36 u37 u38 u39 u40 u41 u42 u43 u44 u45 u46 u47 u48 u49 u50 u51 u52 u53 u54 : Value),
    a' = { tmps := #[.slice A l.length c, .func (.func F) #[] cap, u2, u3, .slice none 0 0, .int .i64 0, .slice Ao out.length co, .pointer (some ⟨b, 0, none⟩), u8, u9, u10, u11, u12, u13, u14, u15, u16, u17, u18, u19, u20, u21, u22, u23, u24, u25, u26, u27, u28, u29, u30, u31, u32, u33, u34, u35, u36, u37, u38, u39, u40, u41, u42, u43, u44, u45, u46, u47, u48, u49, u50, u51, u52, u53, u54], defers := [] } ∧ Hid (LeastAt w wr b F cap out n Ao co) ∧ Hid (leastAll K f out n = leastOf K l ∧ out.length < f ∧ out.length ≤ 1000 ∧ n ≤ 600)

def leastMu (a : Act) (_ : World) : Nat := match (a.tmps[6]? : Option Value) with | some (Value.slice _ n _) => n | _ => 0

def LeastRet (w : World) (K : List Int → Bool) (l : List Int) (e : Ending) (w' : World) : Prop :=
  ∃ v', e = .returned (.tuple #[v', .int .i64 (leastOf K l).2]) ∧ w'.ownsRow w.heap.size 34 8 v' (leastOf K l).1.length (opsC (leastOf K l).1) ∧ Below w.heap.size w w'

set_option maxHeartbeats 4000000 in
set_option maxRecDepth 100000 in
theorem least_any {F : FuncId} {cap : Array Value} {K : List Int → Bool} (hE : ∀ (args : Array Value) (w : World), (callFunc F args).run Try.prog w = .ok (.enter F args) w) (w : World) (hK : Asks w F cap K)
    (A : Option Addr) (c : Nat) (l : List Int) (hl : l.length ≤ 1000) (hr : Rd w (.slice A l.length c) 8 l.length (opsC l)) :
    Calls Try.prog 20 #[.slice A l.length c, .func (.func F) #[] cap] w (LeastRet w K l) := by
  have HE := Lib.hid hE
  have HK := Lib.hid hK
  have HR := Lib.hid hr
  have HL := Lib.hid hl
  clear hE hK hr hl
  have hcl := clone_Op (.slice A l.length c) l.length (opsC l) (opsC_one _) (by have := HL.out; omega) w HR.out
  have HCL := Lib.hid hcl
  have heq := fun w => eql_func_nil w F cap
  clear hcl
  go_enter Try.func20, Try.ntmps20
  go_wp2_with fail
  refine wp_scope_loop 0 (LeastJ w F cap K A l c) leastMu rfl ?pass ?first
  case first =>
    intro hrest
    have HREST := Lib.hid hrest
    clear hrest
    go_wp2_with fail
    refine HCL.out.mono ?_
    rintro e w1 ⟨v1, rfl, hown, hb⟩
    obtain ⟨A1, c1, rfl⟩ := own_shape hown
    have HOWN := Lib.hid hown
    have HB := Lib.hid hb
    clear hown hb
    go_wp2_with fail
    obtain ⟨w2, hw2⟩ : ∃ W, w1.alloc (.cells #[.func (.func F) #[] cap, .int .i64 0] 82) = W := ⟨_, rfl⟩
    have hask : AskAt w2 w1.heap.size F cap 0 := by rw [← hw2]; exact World.alloc_heap_new _ _
    have hb12 : Below w1.heap.size w1 w2 := by rw [← hw2]; exact (Below.refl _ _).alloc (Nat.le_refl _) _
    have hown2 : w2.ownsRow w.heap.size 34 8 (.slice A1 l.length c1) l.length (opsC l) := by rw [← hw2]; exact HOWN.out.alloc _
    have hb2 : Below w.heap.size w w2 := HB.out.trans (hb12.mono HB.out.size)
    rw [hw2]
    obtain ⟨b, hbe⟩ : ∃ b, w1.heap.size = b := ⟨_, rfl⟩
    rw [hbe] at hask ⊢
    have hbge : w.heap.size ≤ b := by rw [← hbe]; exact HB.out.size
    have HST : Hid (LeastAt w w2 b F cap l 0 A1 c1) := ⟨hask, hown2, hb2, hbge⟩
    clear hw2 hask hb12 hown2 hb2 hbge hbe HOWN HB
    refine (clone_Op (.slice A1 l.length c1) l.length (opsC l) (opsC_one _) (by have := HL.out; omega) w2 (Rd.of_own HST.out.row)).mono ?_
    rintro e w3 ⟨v2, rfl, hown3, hb3⟩
    obtain ⟨A2, c2, rfl⟩ := own_shape hown3
    have hq := ask_any HE.out HK.out b 0 HST.out.bge A2 c2 l HL.out w3 (HST.out.below.trans (hb3.mono HST.out.below.size)) (HST.out.ask.below hb3) (Rd.of_own hown3) (fun ad hA hbb => by
      subst hA
      have h1 := own_ge' hown3 ad.block (by
        rcases hown3.2 with ⟨h, _⟩ | ⟨g, cap, cur, h, _⟩
        · cases h
        · cases h; rfl)
      have h2 := (Array.getElem?_eq_some_iff.1 HST.out.ask).1
      omega) (by omega)
    have HQ := Lib.hid hq
    have HST3 : Hid (LeastAt w w3 b F cap l 0 A1 c1) := ⟨HST.out.ask.below hb3, own_keep HST.out.row (fun k hk => hb3.block k (own_lt' HST.out.row k hk)), HST.out.below.trans (hb3.mono HST.out.below.size), HST.out.bge⟩
    clear hown3 hb3 hq
    go_wp2_with fail
    refine HQ.out.mono ?_
    rintro e w4 ⟨rfl, h1, h2, h3, h4⟩
    have HST4 : Hid (LeastAt w w4 b F cap l 1 A1 c1) := ⟨h1, own_keep HST3.out.row (fun k hk => h4 k (own_lt' HST3.out.row k hk) (fun e => by
      subst e
      obtain ⟨cs, hcs⟩ := own_cells' HST3.out.row k hk
      have := HST3.out.ask
      unfold AskAt at this
      rw [hcs] at this
      simp at this)), h2, HST3.out.bge⟩
    have e1 : askB K 0 l = K l := by simp [askB]
    rw [e1]
    clear h1 h2 h3 h4 e1 HQ
    cases hKl : K l with
    | true =>
      have HKL := Lib.hid hKl
      clear hKl
      go_wp2_with fail
      go_step3
      simp only [Exit.then]
      refine (‹∀ (a : Act) (w_1 : World), Code.wp _ _ _ a w_1 → _› _ _ ?_)
      refine HREST.out _ _ ⟨b, l, 1, l.length + 1, A1, c1, _, _, _, _, _, _, _, _, _, _, _, _, _, _, _, _, _, _, _, _, _, _, _, _, _, _, _, _, _, _, _, _, _, _, _, _, _, _, _, _, _, _, _, _, _, _, _, _, _, rfl, HST4, ?_⟩
      exact ⟨by simp [leastOf, HKL.out], by omega, HL.out, by omega⟩
    | false =>
      have HKL := Lib.hid hKl
      clear hKl
      have a1 : w4.cell? ⟨b, 1, none⟩ = some (.int .i64 1) := by simp [World.cell?, show w4.heap[b]? = _ from HST4.out.ask]
      go_wp2_with fail
      go_quiet (fail)
      go_wp2_with fail
      try simp only [Exit.jump]
      go_ret2
      refine ⟨.slice A1 l.length c1, by simp [leastOf, HKL.out], ?_, ?_⟩
      · have e : (leastOf K l).1 = l := by simp [leastOf, HKL.out]
        rw [e]
        exact HST4.out.row
      · exact HST4.out.below.trans ⟨rfl, rfl, rfl, Nat.le_refl _, fun _ _ => rfl⟩
  case pass =>
    rintro a' wl ⟨b, out0, n0, f0, Ao, co, u2, u3, u8, u9, u10, u11, u12, u13, u14, u15, u16, u17, u18, u19, u20, u21, u22, u23, u24, u25, u26, u27, u28, u29, u30, u31, u32, u33, u34, u35, u36, u37, u38, u39, u40, u41, u42, u43, u44, u45, u46, u47, u48, u49, u50, u51, u52, u53, u54, rfl, HST, HJ⟩
    clear HCL
    go_wp2_with fail
    go_loopg [6, 8, 9] out0.length (fun n t6 t8 t9 wr => ∃ (out : List Int) (i nn : Nat) (less : Bool) (A1 : Option Addr) (c1 : Nat), Hid (n = out.length - i ∧ i ≤ out.length ∧ out.length ≤ 1000 ∧ nn ≤ 600) ∧ t6 = .slice A1 out.length c1 ∧ t8 = .bool less ∧ t9 = .int .i64 i ∧
      Hid (LeastAt w wr b F cap out nn A1 c1) ∧ Hid (leastPass K (out.length - i) out i nn less = leastPass K out0.length out0 0 n0 false))
    case atStart => exact ⟨out0, 0, n0, false, Ao, co, ⟨rfl, Nat.zero_le _, HJ.out.2.2.1, HJ.out.2.2.2⟩, rfl, rfl, rfl, HST, rfl⟩
    case round =>
      obtain ⟨out, i, nn, less, A1, c1, HN, rfl, rfl, rfl, HS, HP⟩ := hrel
      by_cases hlt : i < out.length
      · obtain ⟨g, c1', hA1⟩ := row_some HS.out.row (by omega)
        cases hA1
        have hnc : out.length ≤ c1 := by
          rcases HS.out.row.2 with ⟨h, _⟩ | ⟨g', cap', cur, h, _, _, hnc, _⟩
          · cases h
          · cases h
            exact hnc
        have hil : (i : Int) < out.length := by omega
        have hi0 : (0 : Int) ≤ i := by omega
        have hi1 : (0 : Int) ≤ (i : Int) + 1 := by omega
        have hin1 : ((i : Int) + 1).toNat = i + 1 := by omega
        have hic : i ≤ c1 := by omega
        have hic1 : (i : Int) ≤ c1 := by omega
        have hil1 : (i : Int) + 1 ≤ out.length := by omega
        have hil2 : i + 1 ≤ out.length := by omega
        have hil3 : i + 1 ≤ c1 := by omega
        have hlc : out.length ≤ c1 := hnc
        have hoi := HN.out.2.2.1
        have hiw : IntKind.i64.wrap ((i : Int) + 1) = (i : Int) + 1 := IntWalk.i64_in _ (by omega)
        clear hoi
        obtain ⟨rs, hrs⟩ : ∃ rs, out.take i ++ out.drop (i + 1) = rs := ⟨_, rfl⟩
        have HRS := Lib.hid hrs
        clear hrs
        go_upto_region 10 with fail
        go_cut [10] (fun t wx => ∃ A2 c2, t = .slice A2 rs.length c2 ∧ Hid (wx.ownsRow wr.heap.size 34 8 (.slice A2 rs.length c2) rs.length (opsC rs)) ∧ Hid (Below wr.heap.size wr wx))
        case first =>
          go_still_tail 7, (by kernel_rfl)
          clear hiw
          change wpList _ _ _ _ _ wr.drew
          go_wp2_with fail
          all_goals
            refine (concat_least HS.out hlt HN.out.2.2.1 _ _ _ (by first | exact .inl rfl | (right; omega)) rs HRS.out).mono ?_
            rintro e wq ⟨A2, c2, rfl, hq1, hq2⟩
            have HQ1 := Lib.hid hq1
            have HQ2 := Lib.hid hq2
            clear hq1 hq2
            go_wp2_with fail
            first | (have hce : c1 = i + 1 := (by omega); subst hce) | skip
            go_meet
            exact ⟨A2, c2, rfl, HQ1, HQ2⟩
        case rest =>
          obtain ⟨A2, c2, rfl, HQ1, HQ2⟩ := hcut
          obtain ⟨wx, rfl⟩ : ∃ wx : World, wx = wc := ⟨_, rfl⟩
          clear hiw
          have hrl : rs.length + 1 = out.length := by
            rw [← HRS.out]
            simp
            omega
          have hrl1 : rs.length ≤ 1000 := by have := HN.out.2.2.1; omega
          have hib : (i : Int) < 1000 := by have := HN.out.2.2.1; omega
          have HSX : Hid (LeastAt w wx b F cap out nn (some ⟨g, 0, none⟩) c1) := ⟨HS.out.ask.below HQ2.out, own_keep HS.out.row (fun k hk => HQ2.out.block k (own_lt' HS.out.row k hk)), HS.out.below.trans (HQ2.out.mono HS.out.below.size), HS.out.bge⟩
          have hclr := clone_Op (.slice A2 rs.length c2) rs.length (opsC rs) (opsC_one _) (by omega) wx (Rd.of_own HQ1.out)
          have HCLR := Lib.hid hclr
          clear hclr
          go_wp2_with fail
          refine HCLR.out.mono ?_
          rintro e w3 ⟨v3, rfl, hown3, hb3⟩
          obtain ⟨A3, c3, rfl⟩ := own_shape hown3
          have hq := ask_any HE.out HK.out b nn HSX.out.bge A3 c3 rs hrl1 w3 (HSX.out.below.trans (hb3.mono HSX.out.below.size)) (HSX.out.ask.below hb3) (Rd.of_own hown3) (fun ad hA hbb => by
            subst hA
            have h1 := own_ge' hown3 ad.block (by
              rcases hown3.2 with ⟨h, _⟩ | ⟨g, cap, cur, h, _⟩
              · cases h
              · cases h; rfl)
            have h2 := (Array.getElem?_eq_some_iff.1 HSX.out.ask).1
            omega) HN.out.2.2.2
          have HQ := Lib.hid hq
          have HST3 : Hid (LeastAt w w3 b F cap out nn (some ⟨g, 0, none⟩) c1) := ⟨HSX.out.ask.below hb3, own_keep HSX.out.row (fun k hk => hb3.block k (own_lt' HSX.out.row k hk)), HSX.out.below.trans (hb3.mono HSX.out.below.size), HSX.out.bge⟩
          have HRS3 : Hid (w3.ownsRow w.heap.size 34 8 (.slice A2 rs.length c2) rs.length (opsC rs)) := own_lower (own_keep HQ1.out (fun k hk => hb3.block k (own_lt' HQ1.out k hk))) HS.out.below.size
          clear hown3 hb3 hq
          go_wp2_with fail
          refine HQ.out.mono ?_
          rintro e w4 ⟨rfl, h1, h2, h3, h4⟩
          have HST4 : Hid (LeastAt w w4 b F cap out (askN nn) (some ⟨g, 0, none⟩) c1) := ⟨h1, own_keep HST3.out.row (fun k hk => h4 k (own_lt' HST3.out.row k hk) (row_ne HST3.out.row HST3.out.ask hk)), h2, HST3.out.bge⟩
          have HRS4 : Hid (LeastAt w w4 b F cap rs (askN nn) A2 c2) := ⟨h1, own_keep HRS3.out (fun k hk => h4 k (own_lt' HRS3.out k hk) (row_ne HRS3.out HST3.out.ask hk)), h2, HST3.out.bge⟩
          have hN2 := askN_le HN.out.2.2.2
          have hp := HP.out
          rw [show out.length - i = (out.length - (i + 1)) + 1 by omega] at hp
          rw [leastPass_succ, HRS.out] at hp
          have HN2 := Lib.hid hN2
          obtain ⟨an, han⟩ : ∃ an, askN nn = an := ⟨_, rfl⟩
          rw [han] at hp HST4 HRS4 HN2
          have HRL := Lib.hid hrl
          clear h1 h2 h3 h4 HQ hN2 han hrl hrl1
          cases hKl : askB K nn rs with
          | true =>
            rw [if_pos hKl] at hp
            have HP2 := Lib.hid hp
            clear hp hKl
            go_wp2_with fail
            go_roundg (rs.length - i)
            case rel => exact ⟨rs, i, an, true, A2, c2, ⟨rfl, by have := HRL.out; omega, by have := HRL.out; have := HN.out; omega, HN2.out⟩, rfl, rfl, rfl, HRS4, by rw [← HP2.out]; congr 1; have := HRL.out; omega⟩
            case measure => have := HRL.out; have := HN.out; omega
          | false =>
            rw [if_neg (by rw [hKl]; simp)] at hp
            have HP2 := Lib.hid hp
            clear hp hKl
            go_wp2_with fail
            go_roundg (out.length - (i + 1))
            case rel => exact ⟨out, i + 1, an, less, some ⟨g, 0, none⟩, c1, ⟨rfl, by omega, HN.out.2.2.1, HN2.out⟩, rfl, rfl, by go_num, HST4, HP2.out⟩
            case measure => have := HN.out; omega
      · have hlt' : ¬ (i : Int) < out.length := by omega
        have hie : out.length - i = 0 := by omega
        have hp := HP.out
        rw [hie] at hp
        have HP2 : Hid (leastPass K out0.length out0 0 n0 false = (out, nn, less)) := hp.symm
        clear hp hie
        cases less with
        | true =>
          go_wp2_with fail
          go_step3
          obtain ⟨f1, rfl⟩ : ∃ f1, f0 = f1 + 1 := ⟨f0 - 1, by have := HJ.out.2.1; omega⟩
          have hlen := (leastPass_len K out0.length out0 0 n0 false (by omega)).2 (by rw [HP2.out])
          rw [HP2.out] at hlen
          have hlen2 : out.length < out0.length := by
            rcases hlen with h | h
            · cases h
            · exact h
          have hall := HJ.out.1
          have hf := HJ.out.2.1
          have ho := HJ.out.2.2.1
          unfold leastAll at hall
          rw [if_pos (by rw [HP2.out]), HP2.out] at hall
          refine ⟨rfl, ⟨b, out, nn, f1, A1, c1, _, _, _, _, _, _, _, _, _, _, _, _, _, _, _, _, _, _, _, _, _, _, _, _, _, _, _, _, _, _, _, _, _, _, _, _, _, _, _, _, _, _, _, _, _, _, _, _, _, rfl, HS, ⟨hall, by omega, by omega, HN.out.2.2.2⟩⟩, ?_⟩
          simp [leastMu]
          exact hlen2
        | false =>
          have a1 : wr.cell? ⟨b, 1, none⟩ = some (.int .i64 nn) := by simp [World.cell?, show wr.heap[b]? = _ from HS.out.ask]
          go_wp2_with fail
          go_quiet (fail)
          go_wp2_with fail
          try simp only [Exit.jump]
          go_ret2
          have hres : leastOf K l = (out, nn) := by
            rw [← HJ.out.1]
            obtain ⟨f1, rfl⟩ : ∃ f1, f0 = f1 + 1 := ⟨f0 - 1, by have := HJ.out.2.1; omega⟩
            simp [leastAll, HP2.out]
          refine ⟨.slice A1 out.length c1, by rw [hres]; rfl, ?_, ?_⟩
          · rw [hres]
            exact HS.out.row
          · exact HS.out.below.trans ⟨rfl, rfl, rfl, Nat.le_refl _, fun _ _ => rfl⟩
end Go.Proofs.Ytnnmhpplmihidaa
