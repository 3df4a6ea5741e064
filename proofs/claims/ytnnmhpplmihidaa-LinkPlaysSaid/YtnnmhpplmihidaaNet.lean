/- The net of package link in memory, and what its parts do. -/
import Derived.WideLaws
import Derived.ChangeKeysEq
import Derived.Test.YtnnmhpplmihidaaMapOf
import Derived.Test.YtnnmhpplmihidaaCloneFr
import Derived.Test.YtnnmhpplmihidaaDeleteFr
namespace Go.Proofs.Ytnnmhpplmihidaa
set_option linter.unusedVariables false
set_option linter.unusedSimpArgs false
open Go.RowKit

abbrev Fr := ByteArray × ByteArray
def frCells (fs : List Fr) : List Value := fs.flatMap fun f => [.string f.1, .string f.2]
def pk (p : Int × Int) : Value := .agg #[.int .i64 p.1, .int .i64 p.2]

theorem frCells_length (fs : List Fr) : (frCells fs).length = fs.length * 2 := by
  induction fs with
  | nil => rfl
  | cons f fs ih => simp only [frCells, List.flatMap_cons, List.length_append, List.length_cons, List.length_nil] at ih ⊢; omega
theorem frCells_one (fs : List Fr) : ∀ u ∈ frCells fs, u.oneCell' = true := by
  intro u hu
  simp only [frCells, List.mem_flatMap] at hu
  obtain ⟨f, _, hf⟩ := hu
  simp at hf
  rcases hf with rfl | rfl <;> rfl
theorem frCells_append (a b : List Fr) : frCells (a ++ b) = frCells a ++ frCells b := by simp [frCells]
theorem frCells_take (fs : List Fr) (i : Nat) : (frCells fs).take (i * 2) = frCells (fs.take i) := by
  induction i generalizing fs with
  | zero => rfl
  | succ i ih =>
    cases fs with
    | nil => simp [frCells]
    | cons f fs =>
      have := ih fs
      simp only [frCells, List.flatMap_cons, List.take_succ_cons] at this ⊢
      rw [show (i + 1) * 2 = i * 2 + 1 + 1 by omega]
      simp [this]
theorem frCells_drop (fs : List Fr) (i : Nat) : (frCells fs).drop (i * 2) = frCells (fs.drop i) := by
  induction i generalizing fs with
  | zero => rfl
  | succ i ih =>
    cases fs with
    | nil => simp [frCells]
    | cons f fs =>
      have := ih fs
      simp only [frCells, List.flatMap_cons, List.drop_succ_cons] at this ⊢
      rw [show (i + 1) * 2 = i * 2 + 1 + 1 by omega]
      simp [this]
theorem frCells_at (fs : List Fr) (i : Nat) (h : i < fs.length) : (frCells fs)[i * 2]? = some (.string fs[i].1) ∧ (frCells fs)[i * 2 + 1]? = some (.string fs[i].2) := by
  have h1 := frCells_drop fs i
  have e := List.drop_eq_getElem_cons h
  rw [e] at h1
  have h2 : (frCells (fs[i] :: fs.drop (i + 1))) = .string fs[i].1 :: .string fs[i].2 :: frCells (fs.drop (i + 1)) := rfl
  rw [h2] at h1
  constructor
  · have := congrArg (fun l => l[0]?) h1
    simpa using this
  · have := congrArg (fun l => l[1]?) h1
    simpa using this

theorem pk_inj {x y : Int × Int} (h : pk x = pk y) : x = y := by
  simp [pk] at h
  exact Prod.ext h.1 h.2

theorem info_i64 : (Try.prog.info? 3).isSome = true := by kernel_rfl
theorem cells_i64 : Try.prog.cellsOf 3 = 1 := by kernel_rfl

theorem part_i64 (w : World) (cs : Array Value) (o : Nat) (v : Value) (h : cs[o]? = some v) : (part 3 cs o).run Try.prog w = .ok v w := by
  have ha : (isAgg 3).run Try.prog w = .ok false w := by kernel_rfl
  simp [part, Sem.run_bind, ha, h, Result.andThen]

theorem pk_equal (w : World) (x y : Int × Int) : (Op.equal 91 (pk x) (pk y)).run Try.prog w = .ok (decide (x = y)) w := by
  obtain ⟨i, hi⟩ := Option.isSome_iff_exists.1 info_i64
  have h1 : ∀ a b : Int, (Op.equalIn 9999 3 (.int .i64 a) (.int .i64 b)).run Try.prog w = .ok (a == b) w := fun a b => run_equalIn_int (P := Try.prog) w 9998 3 .i64 .i64 a b Try.underlying3
  show (Op.equalIn (9999 + 1) 91 (pk x) (pk y)).run Try.prog w = _
  unfold pk
  rw [run_equalIn_array (P := Try.prog) w 9999 _ _ Try.underlying91 hi, cells_i64, show List.range 2 = [0, 1] from rfl]
  obtain ⟨a, b⟩ := x
  obtain ⟨c, d⟩ := y
  have p0 : ∀ a b : Int, (part 3 #[.int .i64 a, .int .i64 b] (0 * 1)).run Try.prog w = .ok (.int .i64 a) w := fun a b => part_i64 w _ _ _ rfl
  have p1 : ∀ a b : Int, (part 3 #[.int .i64 a, .int .i64 b] (1 * 1)).run Try.prog w = .ok (.int .i64 b) w := fun a b => part_i64 w _ _ _ rfl
  have p2 : ∀ a b : Int, (part 3 #[.int .i64 a, .int .i64 b] 1).run Try.prog w = .ok (.int .i64 b) w := fun a b => part_i64 w _ _ _ rfl
  simp only [Op.eqItems, Sem.run_bind, p0, p1, Result.andThen, h1]
  by_cases e1 : a = c
  · subst e1
    by_cases e2 : b = d
    · subst e2; simp [p2, h1]
    · simp [p2, h1, e2]
  · simp [e1]

theorem check_i64 (w : World) (em : Bool) (n : Nat) (a : Int) : (Instr.checkKey em (n + 1) 3 (.int .i64 a)).run Try.prog w = .ok () w := by
  simp [Instr.checkKey, Sem.run_bind, run_underlying Try.underlying3, Result.andThen]

theorem pk_check_at (w : World) (em : Bool) (n : Nat) (x : Int × Int) : (Instr.checkKey em (n + 1 + 1) 91 (pk x)).run Try.prog w = .ok () w := by
  have hs : (sizeOf 3).run Try.prog w = .ok 1 w := by kernel_rfl
  have p0 : ∀ a b : Int, (part 3 #[.int .i64 a, .int .i64 b] 0).run Try.prog w = .ok (.int .i64 a) w := fun a b => part_i64 w _ _ _ rfl
  have p1 : ∀ a b : Int, (part 3 #[.int .i64 a, .int .i64 b] 1).run Try.prog w = .ok (.int .i64 b) w := fun a b => part_i64 w _ _ _ rfl
  unfold pk
  rw [Instr.checkKey]
  simp [Sem.run_bind, run_underlying Try.underlying91, Result.andThen, Std.Legacy.Range.forIn_eq_forIn_range', Std.Legacy.Range.size, List.range', hs, p0, p1, check_i64]

theorem pk_check (w : World) (em : Bool) (x : Int × Int) : (Instr.checkKey em 10000 91 (pk x)).run Try.prog w = .ok () w := pk_check_at w em 9998 x

theorem pk_stays (w : World) (x : Int × Int) : (Instr.keyThatStays (pk x) (pk x)).run Try.prog w = .ok (pk x) w := by
  simp [Instr.keyThatStays, pk, Instr.sameBits]

theorem pk_law : KeyLaw Try.prog 91 pk :=
  ⟨fun w em x => pk_check w em x, fun w x es ks h => by
    cases es with
    | nil =>
      have : ks = [] := by simpa using h.symm
      subst this
      exact .inl ⟨by simp [Instr.findKey, Instr.findNow, Sem.run_bind, run_underlying Try.underlying91, Result.andThen], by simp⟩
    | cons e es =>
      have hn : (Instr.findKey 91 (pk x) (e :: es)).run Try.prog w = (Instr.findAsking 91 (pk x) (e :: es) 0).run Try.prog w := by
        simp [Instr.findKey, Instr.findNow, Instr.sameNow, Sem.run_bind, run_underlying Try.underlying91, Result.andThen]
      rw [hn]
      have := findAsking_of (P := Try.prog) (k := 91) (enc := pk) (fun w x y => pk_equal w x y) w x (e :: es) ks 0 h
      simpa using this,
   fun w x => pk_stays w x⟩
end Go.Proofs.Ytnnmhpplmihidaa
