/- LinkPlays: the document's operations, as the law's walk meets them. -/
import Derived.Test.YtnnmhpplmihidaaRefRow
import Derived.Test.YtnnmhpplmihidaaNetClear
namespace Go.Proofs.Ytnnmhpplmihidaa
set_option linter.unusedVariables false
set_option linter.unusedSimpArgs false
open PLinkPlays Go.RowKit Go.Proofs.YtnnmhpplmihidaaW.PrintWords

/-- The net of the program (at g) with the links L; the document's net, in the box Bm, with the row vm of the frames M. -/
structure PlaysAt (w wr : World) (g mb Bm : Nat) (P : Int) (L : Int × Int → List Fr) (M : List RF) (vm : Value) : Prop where
  net : ∃ O m, IsNet w.heap.size wr O g P L mb m ∧ (∀ k, vm.ownBlock = some k → ¬ O k) ∧ ¬ O Bm
  box : wr.heap[Bm]? = some (.cells #[.int .i64 P, vm] 60 (0, 0))
  row : wr.ownsRow w.heap.size 52 4 vm M.length (rfCells M)
  ne : ∀ k, vm.ownBlock = some k → k ≠ Bm
  bge : w.heap.size ≤ Bm
  below : Below w.heap.size w wr

section
variable {w wr : World} {g mb Bm : Nat} {P : Int} {L : Int × Int → List Fr} {M : List RF} {vm : Value}

theorem PlaysAt.lt (h : PlaysAt w wr g mb Bm P L M vm) : Bm < wr.heap.size := (Array.getElem?_eq_some_iff.1 h.box).1

theorem PlaysAt.after (h : PlaysAt w wr g mb Bm P L M vm) {w2 : World} (hb : Below wr.heap.size wr w2) :
    ∃ O m, IsNet w.heap.size w2 O g P L mb m ∧ ∀ L' w', NetStep w.heap.size w2 O g P L' mb w' → PlaysAt w w' g mb Bm P L' M vm ∧ (∀ k, wr.heap.size ≤ k → k < w2.heap.size → w'.heap[k]? = w2.heap[k]?) := by
  obtain ⟨O, m, hn, hs, hB⟩ := h.net
  have hlt := h.lt
  have hmv : Moved w.heap.size O wr w2 := Moved.of_below _ hb hn.hn0
  refine ⟨O, m, hn.moved hmv, fun L' w' hstep => ?_⟩
  obtain ⟨O', m', h1, h2, h3⟩ := hstep
  have hsz := hb.size
  have K : ∀ k, k < wr.heap.size → ¬ O k → w'.heap[k]? = wr.heap[k]? := fun k hk ho => (h3.keep k (Nat.lt_of_lt_of_le hk hb.size) ho).trans (hb.block k hk)
  have N : ∀ k, k < wr.heap.size → ¬ O k → ¬ O' k := by
    intro k hk ho hO'
    rcases h2 k hO' with h | h
    · exact ho h
    · omega
  exact ⟨⟨⟨O', m', h1, fun k hk => N k (own_lt' h.row k hk) (hs k hk), N Bm hlt hB⟩, (K Bm hlt hB).trans h.box, own_keep h.row (fun k hk => K k (own_lt' h.row k hk) (hs k hk)), h.ne, h.bge,
    h.below.trans ((hb.mono h.below.size).trans h3.below)⟩, fun k hk hlt => h3.keep k hlt (fun ho => by have := hn.lt k ho; omega)⟩

/-- Behind an operation of the document, whose result was stored. -/
theorem PlaysAt.ref (h : PlaysAt w wr g mb Bm P L M vm) {w4 : World} {M' : List RF} {v' : Value} (hsz : wr.heap.size ≤ w4.heap.size) (hK : ∀ k, k < wr.heap.size → vm.ownBlock ≠ some k → w4.heap[k]? = wr.heap[k]?) (hb : Below w.heap.size w w4)
    (hrow : w4.ownsRow w.heap.size 52 4 v' M'.length (rfCells M')) (hv : ∀ k, v'.ownBlock = some k → vm.ownBlock = some k ∨ wr.heap.size ≤ k) :
    PlaysAt w ((w4.setCell ⟨Bm, 0, none⟩ (.int .i64 P)).setCell ⟨Bm, 1, none⟩ v') g mb Bm P L M' v' := by
  obtain ⟨O, m, hn, hs, hB⟩ := h.net
  have hlt := h.lt
  have hne' : ∀ k, v'.ownBlock = some k → k ≠ Bm := by
    intro k hk
    rcases hv k hk with h1 | h1
    · exact h.ne k h1
    · omega
  have hbox4 : w4.heap[Bm]? = some (.cells #[.int .i64 P, vm] 60 (0, 0)) := (hK Bm hlt (fun e => h.ne Bm e rfl)).trans h.box
  have S : ∀ k, k ≠ Bm → ((w4.setCell ⟨Bm, 0, none⟩ (.int .i64 P)).setCell ⟨Bm, 1, none⟩ v').heap[k]? = w4.heap[k]? := by
    intro k hk
    rw [Below.heap_setCell _ _ _ _ (by simpa using hk), Below.heap_setCell _ _ _ _ (by simpa using hk)]
  have hbelow : Below w.heap.size wr ((w4.setCell ⟨Bm, 0, none⟩ (.int .i64 P)).setCell ⟨Bm, 1, none⟩ v') := by
    have h5 := (hb.setCell (p := ⟨Bm, 0, none⟩) h.bge (.int .i64 P)).setCell (p := ⟨Bm, 1, none⟩) h.bge v'
    refine ⟨h5.os.trans h.below.os.symm, h5.tape.trans h.below.tape.symm, h5.output.trans h.below.output.symm, ?_, fun k hk => (h5.block k hk).trans (h.below.block k hk).symm⟩
    have e : ((w4.setCell ⟨Bm, 0, none⟩ (.int .i64 P)).setCell ⟨Bm, 1, none⟩ v').heap.size = w4.heap.size := by simp [World.setCell]
    omega
  refine ⟨⟨O, m, hn.moved ⟨hbelow, fun k hk ho => ?_⟩, fun k hk ho => ?_, hB⟩, cells_two hbox4 _ _, own_keep hrow (fun k hk => S k (hne' k hk)), hne', h.bge, h.below.trans hbelow⟩
  · have hkB : k ≠ Bm := fun e => hB (e ▸ ho)
    rw [S k hkB]
    exact hK k hk (fun e => hs k e ho)
  · rcases hv k hk with h1 | h1
    · exact hs k h1 ho
    · have := hn.lt k ho
      omega
end
end Go.Proofs.Ytnnmhpplmihidaa
namespace Go.Proofs.Ytnnmhpplmihidaa
set_option linter.unusedVariables false
set_option linter.unusedSimpArgs false
open PLinkPlays Go.RowKit Go.Proofs.YtnnmhpplmihidaaW.PrintWords

/-- What an operation of the document leaves, that was given the row vm: the new row v'. -/
def RefOk (w wr : World) (P : Int) (vm : Value) (L' : Int × Int → List Fr) (n' : Nat) (v' : Value) (w4 : World) : Prop :=
  ∃ M', w4.ownsRow w.heap.size 52 4 v' M'.length (rfCells M') ∧ (∀ k, v'.ownBlock = some k → vm.ownBlock = some k ∨ wr.heap.size ≤ k) ∧ Ok P M' L' n' ∧ Below w.heap.size w w4 ∧ wr.heap.size ≤ w4.heap.size ∧
    (∀ k, k < wr.heap.size → vm.ownBlock ≠ some k → w4.heap[k]? = wr.heap[k]?)

section
variable {w wr : World} {P : Int} {M : List RF} {vm : Value} {L : Int × Int → List Fr} {n : Nat}

theorem refOk_of {w4 : World} {v' : Value} {M' : List RF} {L' : Int × Int → List Fr} {n' : Nat} (hr : Kd.R k52 52 w4 w.heap.size (fun k_ => (vm.ownBlock = some k_ ∨ wr.heap.size ≤ k_)) v' M') (hb : Below w.heap.size w w4) (hk : Kept wr w4 (fun k_ => vm.ownBlock = some k_)) (ho : Ok P M' L' n') : RefOk w wr P vm L' n' v' w4 :=
  ⟨M', toOwn hr, hr.1, ho, hb, hk.1, fun k h1 h2 => hk.2 k h1 h2⟩

set_option maxRecDepth 100000 in
theorem send_ref (hB : Below w.heap.size w wr) (hrow : wr.ownsRow w.heap.size 52 4 vm M.length (rfCells M)) (h : Ok P M L n) (hn : n < 1000) (a b : Int) (s : ByteArray) :
    Calls Try.prog 33 #[.agg #[.int .i64 P, vm], .int .i64 a, .int .i64 b, .string s] wr fun e w4 => ∃ v', e = .returned (.tuple #[.agg #[.int .i64 P, v'], .int .i64 (sendM P L a b s).1]) ∧ RefOk w wr P vm (sendM P L a b s).2 (n + 1) v' w4 := by
  obtain ⟨M', hf, hok⟩ := send_eval 10000 (by omega) h hn a b s
  refine (hearsayref26_Send.calls 10000 P (fun k => vm.ownBlock = some k) vm M a b s _ _ _ w wr hB (toR hrow (fun k hk => hk)) hf).mono ?_
  rintro e w4 ⟨v', rfl, h1, h2, h3⟩
  exact ⟨v', rfl, refOk_of h1 h2 h3 hok⟩

set_option maxRecDepth 100000 in
theorem take_ref (hB : Below w.heap.size w wr) (hrow : wr.ownsRow w.heap.size 52 4 vm M.length (rfCells M)) (h : Ok P M L n) (hn : n < 1000) (a b i : Int) (hi : i < 9223372036854775808) :
    Calls Try.prog 34 #[.agg #[.int .i64 P, vm], .int .i64 a, .int .i64 b, .int .i64 i] wr fun e w4 => ∃ v', e = .returned (.tuple #[.agg #[.int .i64 P, v'], .string (takeM P L a b i).1.1, .bool (takeM P L a b i).1.2.1, .int .i64 (takeM P L a b i).1.2.2]) ∧ RefOk w wr P vm (takeM P L a b i).2 (n + 1) v' w4 := by
  obtain ⟨M', hf, hok⟩ := take_eval 10000 (by omega) h hn a b i hi
  refine (hearsayref26_Take.calls 10000 P (fun k => vm.ownBlock = some k) vm M a b i _ _ _ _ _ w wr hB (toR hrow (fun k hk => hk)) hf).mono ?_
  rintro e w4 ⟨v', rfl, h1, h2, h3⟩
  exact ⟨v', rfl, refOk_of h1 h2 h3 ⟨hok.rel, Nat.le_succ_of_le hok.len, hok.there, hok.size⟩⟩

set_option maxRecDepth 100000 in
theorem clear_ref {P : Nat} {L : Int × Int → List Fr} {M : List RF} (hB : Below w.heap.size w wr) (hrow : wr.ownsRow w.heap.size 52 4 vm M.length (rfCells M)) (h : Ok P M L n) (hn : n < 1000) (peer : Int) :
    Calls Try.prog 38 #[.agg #[.int .i64 P, vm], .int .i64 peer] wr fun e w4 => ∃ v', e = .returned (.tuple #[.agg #[.int .i64 P, v'], .int .i64 (clearK P L peer P)]) ∧ RefOk w wr P vm (clearL L peer P) (n + 1) v' w4 := by
  have hl := h.len
  obtain ⟨A, c, rfl⟩ := own_shape hrow
  obtain ⟨hlc, hC⟩ := toC hrow
  refine (hearsayref26_Clear.calls 10000 P A c M peer _ _ _ wr hC hlc (clear_f 10000 (by omega) P peer M (by omega))).mono ?_
  rintro e w4 ⟨v', rfl, h1, h2⟩
  have hok := h.clear peer
  refine ⟨v', by rw [h.clearN peer], M.filter (notTo peer), own_lower (toOwn h1) hB.size, fun k hk => .inr (own_ge' (toOwn h1) k hk), ⟨hok.rel, Nat.le_succ_of_le hok.len, hok.there, hok.size⟩, hB.trans (h2.mono hB.size), h2.size, fun k hk _ => h2.block k hk⟩

set_option maxRecDepth 100000 in
theorem len_ref (hrow : wr.ownsRow w.heap.size 52 4 vm M.length (rfCells M)) (h : Ok P M L n) (hn : n < 1000) (a b : Int) :
    Calls Try.prog 41 #[.agg #[.int .i64 P, vm], .int .i64 a, .int .i64 b] wr fun e w4 => e = .returned (.int .i64 (lenM P L a b)) ∧ Below wr.heap.size wr w4 := by
  have hl := h.len
  obtain ⟨A, c, rfl⟩ := own_shape hrow
  obtain ⟨hlc, hC⟩ := toC hrow
  have := hearsayref26_Len.calls 10000 P A c M a b _ wr hC hlc (len_f 10000 P M a b (by omega) (by omega))
  rw [h.lenM] at this
  exact this

set_option maxRecDepth 100000 in
theorem next_ref {P : Nat} (hP : P ≤ 64) {L : Int × Int → List Fr} {M : List RF} (hrow : wr.ownsRow w.heap.size 52 4 vm M.length (rfCells M)) (h : Ok P M L n) (hn : n < 1000) :
    Calls Try.prog 43 #[.agg #[.int .i64 P, vm]] wr fun e w4 => ∃ r : Int × Int × Bool, e = .returned (.tuple #[.int .i64 r.1, .int .i64 r.2.1, .bool r.2.2]) ∧ NextIs L r ∧ Below wr.heap.size wr w4 := by
  obtain ⟨A, c, rfl⟩ := own_shape hrow
  obtain ⟨hlc, hC⟩ := toC hrow
  obtain ⟨r, hf, hr⟩ := next_f 10000 hP (by omega) h hn
  refine (hearsayref26_Next.calls 10000 P A c M _ _ _ wr hC hlc hf).mono ?_
  rintro e w4 ⟨rfl, hb⟩
  exact ⟨r, rfl, hr, hb⟩
end
end Go.Proofs.Ytnnmhpplmihidaa
