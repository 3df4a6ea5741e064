/- package show: a text's list. -/
import Derived.StillTailTactics
import Derived.Deep.Cut
import Derived.Deep.DeepCutAuto
import Derived.Deep.RegionHeld3
import Derived.Lib.AppendIntMem
import Derived.Test.YtmeneoanmfpecaaDoorText
import Derived.Test.YtmeneoanmfpecaaDoorDots
namespace Go.Proofs.YtmeneoanmfpecaaDoor
set_option linter.unusedVariables false
set_option linter.unusedSimpArgs false
open Go.RowKit

theorem text_keep {B b : Nat} {bs : List Value} {w w' : World} (h : IsText B b bs w) (hb : Below w.heap.size w w') : IsText B b bs w' := by
  have key : ∀ p, TextAt B b p bs w → TextAt B b p bs w' := by
    rintro p ⟨hB, v, hbk, hown, hne⟩
    have hlt : b < w.heap.size := by
      rcases Nat.lt_or_ge b w.heap.size with h' | h'
      · exact h'
      · simp [Array.getElem?_eq_none h'] at hbk
    exact ⟨hB, v, by rw [hb.block b hlt]; exact hbk, own_keep hown (fun k hk => hb.block k (own_lt' hown k hk)), hne⟩
  rcases h with h | h
  · exact .inl (key _ h)
  · exact .inr (key _ h)

/-- The first i of some texts, with something between each two. -/
def joinT (bet : List UInt8) (T : Nat → List UInt8) : Nat → List UInt8
  | 0 => []
  | i + 1 => joinT bet T i ++ ((if i = 0 then [] else bet) ++ T i)

theorem joinT_bd (bet : List UInt8) (T : Nat → List UInt8) (D : Nat) (n : Nat) (h : ∀ i, i < n → (T i).length + bet.length ≤ D) : (joinT bet T n).length ≤ D * n := by
  induction n with
  | zero => simp [joinT]
  | succ i ih =>
    have h1 := ih fun j hj => h j (by omega)
    have h2 := h i (by omega)
    simp only [joinT, List.length_append]
    have h3 : (if i = 0 then [] else bet : List UInt8).length ≤ bet.length := by split <;> simp
    rw [Nat.mul_add, Nat.mul_one]
    omega

theorem list_step {B b : Nat} {w : World} {BS : List Value} {F : FuncId} {cap : Array Value} {k : Nat} {o : ByteArray} (hBw : B ≤ w.heap.size)
    (hF : ∀ w', Below B w w' → Calls Tryd.prog F (#[.int .i64 k] ++ cap) w' fun e w2 => e = .returned (.string o) ∧ Below w'.heap.size w' w2) :
    ∀ w', Below B w w' → IsText B b BS w' → Calls Tryd.prog F (#[.int .i64 k] ++ cap) w' fun e w2 => e = .returned (.string o) ∧ (Below B w w2 ∧ IsText B b BS w2) :=
  fun w' hb ht => (hF w' hb).mono fun e w2 h => ⟨h.1, hb.trans (h.2.mono (by have := hb.size; omega)), text_keep ht h.2⟩

theorem write_step {B b : Nat} {w : World} {BS : List Value} (o : ByteArray) (hBw : B ≤ w.heap.size) (hlen : BS.length + o.size ≤ 140737488355328) :
    ∀ w', Below B w w' → IsText B b BS w' → Calls Tryd.prog 75 #[.pointer (some ⟨b, 0, none⟩), .string o] w' fun e w2 => e = .returned (.tuple #[.int .i64 o.size, .nilIface]) ∧ (Below B w w2 ∧ IsText B b (BS ++ Lib.strCells o) w2) :=
  fun w' hb ht => (twrite_any B b BS o w' ht hlen (by have := hb.size; omega)).mono fun e w2 h => ⟨h.1, hb.trans h.2.2, .inr h.2.1⟩

set_option maxHeartbeats 4000000 in
set_option maxRecDepth 100000 in
theorem list_any (B b : Nat) (bs : List Value) (n : Nat) (bet : List UInt8) (T : Nat → List UInt8) (F : FuncId) (hE : ∀ (args : Array Value) (w : World), (callFunc F args).run Tryd.prog w = .ok (.enter F args) w) (cap : Array Value) (D : Nat) (w : World) (h : IsText B b bs w) (hBw : B ≤ w.heap.size)
    (hn : n ≤ 1000) (hD : ∀ i, i < n → (T i).length + bet.length ≤ D) (hbs : bs.length + D * n ≤ 1000000000000)
    (hF : ∀ (w' : World) (i : Nat), i < n → Below B w w' → Calls Tryd.prog F (#[.int .i64 i] ++ cap) w' fun e w2 => e = .returned (.string ⟨(T i).toArray⟩) ∧ Below w'.heap.size w' w2) :
    Calls Tryd.prog 76 #[.pointer (some ⟨b, 0, none⟩), .int .i64 n, .string ⟨bet.toArray⟩, .func (.func F) #[] cap] w fun e w' => e = .returned (.tuple #[]) ∧ (IsText B b (bs ++ Lib.byteCells (joinT bet T n)) w' ∧ Below B w w') := by
  have HH := Lib.hid h
  have HBW := Lib.hid hBw
  have HD := Lib.hid hD
  have HBS := Lib.hid hbs
  have HF := Lib.hid hF
  have hn' : (n : Int) ≤ 1000 := by omega
  obtain ⟨BT, hBT⟩ : ∃ o : ByteArray, ⟨bet.toArray⟩ = o := ⟨_, rfl⟩
  have HBT := Lib.hid hBT
  rw [hBT]
  clear h hBw hD hbs hF hn hBT
  go_enter Tryd.func76, Tryd.ntmps76
  go_wp2_with fail
  go_loopg [8, 10] n (fun m t8 t10 wr => ∃ k : Nat, Hid (m = n - k ∧ k ≤ n) ∧ t10 = .int .i64 k ∧ Hid (IsText B b (bs ++ Lib.byteCells (joinT bet T k)) wr) ∧ Hid (Below B w wr))
  case atStart => exact ⟨0, ⟨rfl, Nat.zero_le _⟩, rfl, by simpa [joinT, Lib.byteCells] using HH, Below.refl _ _⟩
  case round =>
    obtain ⟨k, HN, rfl, HT, HB⟩ := hrel
    by_cases hlt : k < n
    · have hlt' : (k : Int) < n := by omega
      have H1 := fun BS => Lib.hid (list_step (BS := BS) (b := b) HBW.out (fun w' hb => HF.out w' k hlt hb))
      have hT := HD.out k hlt
      have hj := joinT_bd bet T D k (fun i hi => HD.out i (by omega))
      have hDn : D * k + D ≤ D * n := by
        have : D * (k + 1) ≤ D * n := Nat.mul_le_mul_left D (by omega)
        rwa [Nat.mul_add, Nat.mul_one] at this
      have hlen : (bs ++ Lib.byteCells (joinT bet T k)).length + bet.length + (T k).length ≤ 1000000000000 := by
        have := HBS.out
        rw [List.length_append, Lib.byteCells_length]
        omega
      obtain ⟨o, ho⟩ : ∃ o : ByteArray, ⟨(T k).toArray⟩ = o := ⟨_, rfl⟩
      have hoz : o.size = (T k).length := by rw [← ho]; rfl
      have hoc : Lib.strCells o = Lib.byteCells (T k) := by rw [← ho]; rfl
      have hbz : BT.size = bet.length := by rw [← HBT.out]; rfl
      have hbc : Lib.strCells BT = Lib.byteCells bet := by rw [← HBT.out]; rfl
      rw [ho] at H1
      by_cases h0 : k = 0
      · subst h0
        have H1' := H1 (bs ++ Lib.byteCells (joinT bet T 0))
        have H2' := Lib.hid (write_step (b := b) (BS := bs ++ Lib.byteCells (joinT bet T 0)) o HBW.out (by omega))
        have HNX : Hid ((bs ++ Lib.byteCells (joinT bet T 0)) ++ Lib.strCells o = bs ++ Lib.byteCells (joinT bet T 1)) := by
          rw [hoc]; simp [Hid, joinT, Lib.byteCells]
        clear H1 hT hj hDn hlen ho hoz hoc hbz hbc
        go_wp2_with fail
        go_region_held3 (fun w' => AnyW w') (exact anyW _)
          (first | (refine (H1'.out _ ?_ ?_).mono ?_; (first | exact HB.out | exact HB.out.drew | exact HB.out.drew.drew); (first | exact HT.out | assumption); rintro e w' ⟨rfl, hq1⟩) | (go_at_call 75; refine (H2'.out _ ?_ ?_).mono ?_; (exact hq1.1); (exact hq1.2); rintro e w' ⟨rfl, hq⟩))
        all_goals
          have HT2 := Lib.hid hq.2
          have HB2 := Lib.hid hq.1
          clear hq hq1
          go_wp2_with fail
          go_roundg (n - (0 + 1))
          case rel => exact ⟨0 + 1, ⟨rfl, hlt⟩, by go_num, by rw [← HNX.out]; exact HT2, HB2⟩
          case measure => have := HN.out; omega
      · have hk0 : 0 < (k : Int) := by omega
        have HW := Lib.hid (write_step (b := b) (BS := bs ++ Lib.byteCells (joinT bet T k)) BT HBW.out (by omega))
        have H1' := H1 ((bs ++ Lib.byteCells (joinT bet T k)) ++ Lib.strCells BT)
        have H2' := Lib.hid (write_step (b := b) (BS := (bs ++ Lib.byteCells (joinT bet T k)) ++ Lib.strCells BT) o HBW.out (by rw [List.length_append, Lib.strCells_length]; omega))
        have HNX : Hid (((bs ++ Lib.byteCells (joinT bet T k)) ++ Lib.strCells BT) ++ Lib.strCells o = bs ++ Lib.byteCells (joinT bet T (k + 1))) := by
          rw [hoc, hbc]; simp [Hid, joinT, Lib.byteCells, h0]
        clear H1 hT hj hDn hlen ho hoz hoc hbz hbc h0
        go_wp2_with fail
        refine (HW.out wr HB.out HT.out).mono ?_
        rintro e w1 ⟨rfl, hq0⟩
        have HBA := Lib.hid hq0.1
        have HTA := Lib.hid hq0.2
        clear hq0
        go_wp2_with fail
        go_region_held3 (fun w' => AnyW w') (exact anyW _)
          (first | (refine (H1'.out _ ?_ ?_).mono ?_; (first | exact HBA.out | exact HBA.out.drew | exact HBA.out.drew.drew); (first | exact HTA.out | assumption); rintro e w' ⟨rfl, hq1⟩) | (go_at_call 75; refine (H2'.out _ ?_ ?_).mono ?_; (exact hq1.1); (exact hq1.2); rintro e w' ⟨rfl, hq⟩))
        all_goals
          have HT2 := Lib.hid hq.2
          have HB2 := Lib.hid hq.1
          clear hq hq1
          go_wp2_with fail
          go_roundg (n - (k + 1))
          case rel => exact ⟨k + 1, ⟨rfl, hlt⟩, by go_num, by rw [← HNX.out]; exact HT2, HB2⟩
          case measure => have := HN.out; omega
    · have hlt' : ¬ (k : Int) < n := by omega
      have hk : k = n := by have := HN.out; omega
      subst hk
      go_wp2_with fail
      go_end0
      exact ⟨rfl, HT.out, HB.out⟩
end Go.Proofs.YtmeneoanmfpecaaDoor
