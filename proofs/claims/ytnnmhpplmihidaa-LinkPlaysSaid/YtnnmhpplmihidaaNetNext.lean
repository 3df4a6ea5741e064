/- The net of package link: Next. -/
import Derived.Test.YtnnmhpplmihidaaNetClear
namespace Go.Proofs.Ytnnmhpplmihidaa
set_option linter.unusedVariables false
set_option linter.unusedSimpArgs false
open Go.RowKit

def lexLt (p q : Int × Int) : Prop := p.1 < q.1 ∨ p.1 = q.1 ∧ p.2 < q.2
theorem lexLt_trans {p q r : Int × Int} (h : lexLt p q) (k : ¬ lexLt r q) : ¬ lexLt r p := by
  unfold lexLt at *
  omega

def NextIs (L : Int × Int → List Fr) (r : Int × Int × Bool) : Prop :=
  (r = (0, 0, false) ∧ ∀ p, L p = []) ∨ (r.2.2 = true ∧ L (r.1, r.2.1) ≠ [] ∧ ∀ p, L p ≠ [] → ¬ lexLt p (r.1, r.2.1))

/-- What is best among those that were seen. -/
def BestOf (peers : Int) (done : List ((Int × Int) × Value)) (best : Int × Int) : Prop :=
  (done = [] ∧ best = (peers, 0)) ∨ (best ∈ done.map Prod.fst ∧ ∀ p ∈ done.map Prod.fst, ¬ lexLt p best)

theorem BestOf.push {peers : Int} {done : List ((Int × Int) × Value)} {best : Int × Int} (h : BestOf peers done best) (p : (Int × Int) × Value) (hp : p.1.1 < peers) :
    BestOf peers (done ++ [p]) (if p.1.1 < best.1 ∨ p.1.1 = best.1 ∧ p.1.2 < best.2 then p.1 else best) := by
  have hself : ¬ lexLt p.1 p.1 := by unfold lexLt; omega
  rcases h with ⟨rfl, rfl⟩ | ⟨h1, h2⟩
  · rw [if_pos (.inl hp)]
    exact .inr ⟨by simp, fun q hq => by simp at hq; rw [hq]; exact hself⟩
  · right
    by_cases hl : p.1.1 < best.1 ∨ p.1.1 = best.1 ∧ p.1.2 < best.2
    · rw [if_pos hl]
      refine ⟨by simp, fun q hq => ?_⟩
      simp only [List.map_append, List.mem_append, List.map_cons, List.map_nil, List.mem_singleton] at hq
      rcases hq with hq | rfl
      · exact lexLt_trans hl (h2 q hq)
      · exact hself
    · rw [if_neg hl]
      refine ⟨by simp only [List.map_append, List.mem_append]; exact .inl h1, fun q hq => ?_⟩
      simp only [List.map_append, List.mem_append, List.map_cons, List.map_nil, List.mem_singleton] at hq
      rcases hq with hq | rfl
      · exact h2 q hq
      · exact hl

theorem cells_two {w : World} {B : Nat} {u v : Value} {t : TypeId} (h : w.heap[B]? = some (.cells #[u, v] t (0, 0))) (u' v' : Value) : ((w.setCell ⟨B, 0, none⟩ u').setCell ⟨B, 1, none⟩ v').heap[B]? = some (.cells #[u', v'] t (0, 0)) := by
  have h1 := heap_setCell_same w B 0 _ _ u' h
  have h2 := heap_setCell_same _ B 1 _ _ v' h1
  rw [h2]
  rfl

section
variable {n0 : Nat} {w : World} {O : Nat → Prop} {g : Nat} {peers : Int} {L : Int × Int → List Fr} {mb : Nat} {m : List ((Int × Int) × Value)}

theorem IsNet.key (h : IsNet n0 w O g peers L mb m) (p : Int × Int) : p ∈ m.map Prod.fst ↔ L p ≠ [] := by
  constructor
  · intro hp
    obtain ⟨⟨q, v⟩, hm, rfl⟩ := List.mem_map.1 hp
    obtain ⟨_, _, _, _, hne⟩ := h.some_ q v (aget_mem h.map.nodup hm)
    exact hne
  · intro hne
    cases hg : aget m p with
    | none => exact absurd (h.none_ p hg) hne
    | some v => exact List.mem_map.2 ⟨_, mem_of_aget hg, rfl⟩

set_option maxHeartbeats 2000000 in
set_option maxRecDepth 100000 in
theorem next_net (h : IsNet n0 w O g peers L mb m) (hT : ∀ p, L p ≠ [] → thereB peers p.1 p.2 = true) :
    Calls Try.prog 42 #[.pointer (some ⟨g, 0, none⟩)] w fun e w' => ∃ r : Int × Int × Bool, e = .returned (.tuple #[.int .i64 r.1, .int .i64 r.2.1, .bool r.2.2]) ∧ NextIs L r ∧ Below w.heap.size w w' := by
  have c0 := h.cell0
  have c1 := h.cell1
  have hlen := fun ty => h.map.len (P := Try.prog) (k := 91) (e := 103) (t := 84) (ty := ty) Try.underlying84
  have HH := Lib.hid h
  have HT := Lib.hid hT
  have hmlt := h.map.lt
  by_cases hm : m = []
  · subst hm
    have hL : ∀ p, L p = [] := fun p => h.none_ p rfl
    have HL := Lib.hid hL
    clear h hT hL
    simp only [List.length_nil] at hlen
    go_enter Try.func42, Try.ntmps42
    go_wp2
    go_ret3
    exact ⟨(0, 0, false), rfl, .inl ⟨rfl, HL.out⟩, Below.refl _ _⟩
  · have hpos : ¬ ((m.length : Int) = 0) := by
      have := List.length_pos_iff.2 hm
      omega
    have HM := Lib.hid hm
    have hmap : IsMap pk (w.alloc (.cells #[.int .i64 peers, .int .i64 0] 91)) mb m := h.map.same (Below.heap_alloc _ _ _ hmlt)
    obtain ⟨W, hW⟩ : ∃ W, w.alloc (.cells #[.int .i64 peers, .int .i64 0] 91) = W := ⟨_, rfl⟩
    rw [hW] at hmap
    have hbl : W.heap[w.heap.size]? = some (.cells #[.int .i64 peers, .int .i64 0] 91 (0, 0)) := by rw [← hW]; exact World.alloc_heap_new _ _
    have HBW : Hid (Below w.heap.size w W) := by rw [← hW]; exact (Below.refl _ _).alloc (Nat.le_refl _) _
    have hsz : W.heap.size = w.heap.size + 1 := by rw [← hW]; simp
    have HBL := Lib.hid hbl
    have HSZ := Lib.hid hsz
    have d1 : W.cell? ⟨g, 1, none⟩ = some (.map (some mb)) := cell_below HBW.out c1
    have d1' : (w.alloc (.cells #[.int .i64 peers, .int .i64 0] 91)).cell? ⟨g, 1, none⟩ = some (.map (some mb)) := by rw [hW]; exact d1
    have HMAP := Lib.hid hmap
    have HW := Lib.hid hW
    clear h hT hm hW hbl hsz hmap
    go_enter Try.func42, Try.ntmps42
    go_wp2_with (first | (at_range; rw [HW.out]; refine wpList_range_map rfl _ 84 rfl Try.underlying84 rfl HMAP.out ?_; intro w0 hrg0 hg0 hs0) | go_in)
    go_frame
    rw [show ((m.length : Int) == 0) = false from by simpa using hpos]
    have HR0 := Lib.hid hrg0
    have HG0 := Lib.hid hg0
    have HB0 : Hid (Below w.heap.size w w0) := HBW.out.trans ⟨hg0.os, hg0.tape, hg0.output, hg0.size, fun k hk => hg0.block k (by have := HSZ.out; omega) (by simp)⟩
    have HC0 : Hid (w0.heap[w.heap.size]? = some (.cells #[.int .i64 peers, .int .i64 0] 91 (0, 0))) := (hg0.block _ (by have := HSZ.out; omega) (by simp)).trans HBL.out
    clear hrg0 hg0 hs0 d1 d1'
    go_loopg [6] m.length (fun n _ wr => ∃ (done left : List ((Int × Int) × Value)) (best : Int × Int), Hid (left.length = n) ∧ Hid (Ranging pk wr W.heap.size mb m done left) ∧ Hid (Below w.heap.size w wr) ∧ Hid (wr.heap[w.heap.size]? = some (.cells #[.int .i64 best.1, .int .i64 best.2] 91 (0, 0))) ∧ Hid (BestOf peers done best))
    case atStart => exact ⟨[], m, (peers, 0), rfl, HR0, HB0, HC0, .inl ⟨rfl, rfl⟩⟩
    case round =>
      obtain ⟨done, left, ⟨x, y⟩, HL, HRG, HBR, HCR, HBO⟩ := hrel
      have hrne : W.heap.size ≠ mb := by have := HSZ.out; omega
      go_wp2_with (first | (at_next; refine wpList_next_map rfl _ rfl rfl hrne HRG.out ?_ ?_) | go_in)
      · intro h0
        have hpm := HRG.out.perm
        rw [h0, List.append_nil] at hpm
        have HP := Lib.hid hpm
        have hcr := HCR.out
        have e0 : wr.cell? ⟨w.heap.size, 0, none⟩ = some (.int .i64 x) := by simp [World.cell?, hcr]
        have e1 : wr.cell? ⟨w.heap.size, 1, none⟩ = some (.int .i64 y) := by simp [World.cell?, hcr]
        clear h0 hpm hcr
        go_wp2
        go_region
        go_wp2
        go_ret3
        refine ⟨(x, y, true), rfl, .inr ⟨rfl, ?_, fun p hp => ?_⟩, HBR.out.trans ⟨rfl, rfl, rfl, Nat.le_refl _, fun _ _ => rfl⟩⟩
        · rcases HBO.out with ⟨h1, _⟩ | ⟨h1, _⟩
          · rw [h1] at HP
            exact absurd (List.nil_perm.1 HP.out) HM.out
          · exact (HH.out.key (x, y)).1 ((HP.out.map Prod.fst).subset h1)
        · rcases HBO.out with ⟨h1, _⟩ | ⟨_, h2⟩
          · rw [h1] at HP
            exact absurd (List.nil_perm.1 HP.out) HM.out
          · exact h2 p ((HP.out.map Prod.fst).symm.subset ((HH.out.key p).2 hp))
      · intro p q v left' w1 hpl hrg1 hg1 hs1 hen
        have hpm := HRG.out.perm
        have hmem : ((p, q), v) ∈ m := hpm.subset (List.mem_append_right _ (hpl.symm.subset (List.mem_cons_self)))
        have hne := (HH.out.key (p, q)).1 (List.mem_map.2 ⟨_, hmem, rfl⟩)
        have hlt : p < peers := by
          have := HT.out _ hne
          unfold thereB at this
          simp at this
          omega
        have HBE := Lib.hid (HBO.out.push ((p, q), v) hlt)
        have hszr := HBR.out.size
        have HP := Lib.hid hpl
        have HR1 := Lib.hid hrg1
        have HB1 : Hid (Below w.heap.size w w1) := ⟨hg1.os.trans HBR.out.os, hg1.tape.trans HBR.out.tape, hg1.output.trans HBR.out.output, Nat.le_trans HBR.out.size hg1.size, fun k hk => (hg1.block k (Nat.lt_of_lt_of_le hk HBR.out.size) (by have := HSZ.out; simp; omega)).trans (HBR.out.block k hk)⟩
        have hbr : w.heap.size < wr.heap.size := (Array.getElem?_eq_some_iff.1 HCR.out).1
        have HBR2 := Lib.hid hbr
        have hc1 : w1.heap[w.heap.size]? = some (.cells #[.int .i64 x, .int .i64 y] 91 (0, 0)) := (hg1.block _ hbr (by have := HSZ.out; simp; omega)).trans HCR.out
        have e0 : w1.cell? ⟨w.heap.size, 0, none⟩ = some (.int .i64 x) := by simp [World.cell?, hc1]
        have e1 : w1.cell? ⟨w.heap.size, 1, none⟩ = some (.int .i64 y) := by simp [World.cell?, hc1]
        have HC1 := Lib.hid hc1
        have hbr1 : w.heap.size < w1.heap.size := by omega
        obtain ⟨W2, hW2⟩ : ∃ W, w1.alloc (.cells #[.int .i64 p, .int .i64 q] 91) = W := ⟨_, rfl⟩
        have hbl2 : W2.heap[w1.heap.size]? = some (.cells #[.int .i64 p, .int .i64 q] 91 (0, 0)) := by rw [← hW2]; exact World.alloc_heap_new _ _
        have hcw2 : W2.heap[w.heap.size]? = some (.cells #[.int .i64 x, .int .i64 y] 91 (0, 0)) := by rw [← hW2, Below.heap_alloc _ _ _ hbr1]; exact hc1
        have f0 : (w1.alloc (.cells #[.int .i64 p, .int .i64 q] 91)).cell? ⟨w.heap.size, 0, none⟩ = some (.int .i64 x) := by rw [hW2]; simp [World.cell?, hcw2]
        have f1 : (w1.alloc (.cells #[.int .i64 p, .int .i64 q] 91)).cell? ⟨w.heap.size, 1, none⟩ = some (.int .i64 y) := by rw [hW2]; simp [World.cell?, hcw2]
        have z0 : (w1.alloc (.cells #[.int .i64 p, .int .i64 q] 91)).frozen? ⟨w.heap.size, 0, none⟩ = false := by rw [hW2]; simp [World.frozen?, hcw2]
        have z1 : (w1.alloc (.cells #[.int .i64 p, .int .i64 q] 91)).frozen? ⟨w.heap.size, 1, none⟩ = false := by rw [hW2]; simp [World.frozen?, hcw2]
        have HW2 := Lib.hid hW2
        have HBL2 := Lib.hid hbl2
        have HCW2 := Lib.hid hcw2
        have HHLT := Lib.hid hlt
        unfold pk at hen
        clear hpm hmem hne hlt hpl hrg1 hg1 hbr hc1 hW2 hbl2 hcw2 hszr
        simp only at hen HBE
        have hlast : ∀ (best' : Int × Int) (w5 : World), BestOf peers (done ++ [((p, q), v)]) best' → Below w1.heap.size w1 w5 ∨ (∃ u u', w5 = (W2.setCell ⟨w.heap.size, 0, none⟩ u).setCell ⟨w.heap.size, 1, none⟩ u') → w5.heap[w.heap.size]? = some (.cells #[.int .i64 best'.1, .int .i64 best'.2] 91 (0, 0)) →
            ∃ (done left : List ((Int × Int) × Value)) (best : Int × Int), Hid (left.length = left'.length) ∧ Hid (Ranging pk w5 W.heap.size mb m done left) ∧ Hid (Below w.heap.size w w5) ∧ Hid (w5.heap[w.heap.size]? = some (.cells #[.int .i64 best.1, .int .i64 best.2] 91 (0, 0))) ∧ Hid (BestOf peers done best) := by
          intro best' w5 h1 h2 h3
          have hk : ∀ k, k < w1.heap.size → k ≠ w.heap.size → w5.heap[k]? = w1.heap[k]? := by
            intro k hk hne
            rcases h2 with h2 | ⟨u, u', rfl⟩
            · exact h2.block k hk
            · rw [Below.heap_setCell _ _ _ _ (by simpa using hne), Below.heap_setCell _ _ _ _ (by simpa using hne), ← HW2.out, Below.heap_alloc _ _ _ hk]
          have hr : W.heap.size < w1.heap.size ∧ mb < w1.heap.size := by
            obtain ⟨_, _, _, h1, h2, _⟩ := HR1.out
            exact ⟨(Array.getElem?_eq_some_iff.1 h2).1, (Array.getElem?_eq_some_iff.1 h1).1⟩
          refine ⟨_, left', best', rfl, HR1.out.same (hk _ hr.1 (by have := HSZ.out; omega)) (hk _ hr.2 (by omega)), ?_, h3, h1⟩
          rcases h2 with h2 | ⟨u, u', rfl⟩
          · exact HB1.out.trans (h2.mono HB1.out.size)
          · rw [← HW2.out]
            exact ((HB1.out.alloc HB1.out.size _).setCell (p := ⟨w.heap.size, 0, none⟩) (Nat.le_refl _) _).setCell (p := ⟨w.heap.size, 1, none⟩) (Nat.le_refl _) _
        have HLA := Lib.hid hlast
        have hms : left'.length < gk := by
          have h1 := HP.out.length_eq
          have h2 := HL.out
          simp at h1
          omega
        clear hlast
        by_cases c1 : p < x
        · rw [if_pos (.inl c1)] at HBE
          go_wp2
          rw [HW2.out]
          go_roundg left'.length
          case rel => exact HLA.out (p, q) _ HBE.out (.inr ⟨_, _, rfl⟩) (cells_two HCW2.out _ _)
          case measure => exact hms
        · by_cases c2 : p = x
          · subst c2
            by_cases c3 : q < y
            · rw [if_pos (.inr ⟨rfl, c3⟩)] at HBE
              go_wp2
              rw [HW2.out]
              go_roundg left'.length
              case rel => exact HLA.out (p, q) _ HBE.out (.inr ⟨_, _, rfl⟩) (cells_two HCW2.out _ _)
              case measure => exact hms
            · rw [if_neg (by omega)] at HBE
              go_wp2
              rw [HW2.out]
              go_roundg left'.length
              case rel => exact HLA.out (p, y) _ HBE.out (.inl (by rw [← HW2.out]; exact (Below.refl _ _).alloc (Nat.le_refl _) _)) HCW2.out
              case measure => exact hms
          · rw [if_neg (by omega)] at HBE
            go_wp2
            rw [HW2.out]
            go_roundg left'.length
            case rel => exact HLA.out (x, y) _ HBE.out (.inl (by rw [← HW2.out]; exact (Below.refl _ _).alloc (Nat.le_refl _) _)) HCW2.out
            case measure => exact hms
end
end Go.Proofs.Ytnnmhpplmihidaa
