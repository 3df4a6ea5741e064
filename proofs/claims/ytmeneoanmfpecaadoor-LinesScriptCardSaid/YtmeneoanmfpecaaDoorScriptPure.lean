/- package lines: a script's lines, in plain lists. -/
import Derived.Lib.Split
import Derived.Lib.SplitLaws
import Derived.Lib.CountLaws
import Derived.Test.YtmeneoanmfpecaaDoorReadLine
namespace Go.Proofs.YtmeneoanmfpecaaDoor
set_option linter.unusedVariables false
set_option linter.unusedSimpArgs false

def nlB : ByteArray := ⟨#[10]⟩
def joinN (bs : List ByteArray) : List UInt8 := bs.flatMap fun b => b.data.toList ++ [10]

theorem index_nl (p r : List UInt8) (h : ∀ c ∈ p, c ≠ 10) : Lib.index (p ++ 10 :: r) [10] = p.length := by
  induction p with
  | nil => simp [Lib.index, List.isPrefixOf]
  | cons b p ih =>
    have hb : b ≠ 10 := h b (by simp)
    have h1 : ([10] : List UInt8).isPrefixOf (b :: (p ++ 10 :: r)) = false := by simp [List.isPrefixOf]; exact fun h => hb h.symm
    have h2 := ih fun c hc => h c (List.mem_cons_of_mem _ hc)
    show Lib.index (b :: (p ++ 10 :: r)) [10] = _
    unfold Lib.index
    rw [h1, h2]
    have h3 : ((p.length : Int) == -1) = false := by simp only [beq_eq_false_iff_ne, ne_eq]; omega
    rw [h3]
    simp
theorem split_nl : ∀ (bs : List ByteArray) (S : ByteArray), S.data.toList = joinN bs → (∀ b ∈ bs, ∀ c ∈ b.data.toList, c ≠ 10) →
    Lib.countB S nlB = bs.length ∧ Lib.splitB nlB 0 bs.length S = bs ++ [ByteArray.empty]
  | [], S, h, _ => by
    have hS : S = ByteArray.empty := by apply ByteArray.ext; apply Array.toList_inj.1; rw [h]; rfl
    subst hS
    exact ⟨by decide +kernel, rfl⟩
  | b :: bs, S, h, hn => by
    have hb := hn b (by simp)
    have h' : S.data.toList = b.data.toList ++ 10 :: joinN bs := by rw [h]; simp [joinN]
    have hi : Lib.indexB S nlB = (b.size : Nat) := by
      show Lib.index S.data.toList [10] = _
      rw [h', index_nl _ _ hb]
      simp
    have hrest : (S.extract (b.size + nlB.size) S.size).data.toList = joinN bs := by
      have hsz : S.size = b.size + 1 + (joinN bs).length := by
        have := congrArg List.length h'
        simp at this
        have e1 : S.data.size = S.size := rfl
        have e2 : b.data.size = b.size := rfl
        omega
      rw [ByteArray.data_extract, Array.toList_extract, h']
      have h1 : nlB.size = 1 := rfl
      rw [h1]
      simp only [List.extract]
      rw [show b.size + 1 = (b.data.toList ++ [10]).length by simp, show b.data.toList ++ 10 :: joinN bs = (b.data.toList ++ [10]) ++ joinN bs by simp, List.drop_left']
      · apply List.take_of_length_le
        simp
        omega
      · rfl
    have hhead : S.extract 0 (b.size + 0) = b := by
      apply ByteArray.ext
      apply Array.toList_inj.1
      rw [ByteArray.data_extract, Array.toList_extract, h']
      simp only [List.extract, List.drop_zero, Nat.add_zero, Nat.sub_zero]
      rw [show b.size = b.data.toList.length by simp, List.take_left']
      rfl
    obtain ⟨h1, h2⟩ := split_nl bs _ hrest fun x hx => hn x (List.mem_cons_of_mem _ hx)
    refine ⟨?_, ?_⟩
    · rw [Lib.countB_hit S nlB b.size (by decide) hi, h1, List.length_cons]
      omega
    · rw [List.length_cons, Lib.splitB_hit nlB 0 _ S b.size hi, h2, hhead]
      rfl

/-- Is a line passed over? -/
def skipB (l : List UInt8) : Bool := match l with | [] => true | c :: _ => c == 35
/-- What a script's lines are: the number of the first that is none, or the operations. -/
def scriptM : List ByteArray → Nat → List OpR → Nat × List OpR
  | [], _, out => (0, out)
  | b :: bs, i, out => if skipB b.data.toList then scriptM bs (i + 1) out else if (readM b.data.toList).2 = 0 then scriptM bs (i + 1) (out ++ [(readM b.data.toList).1]) else (i + 1, out)
theorem scriptM_append : ∀ (a b : List ByteArray) (i : Nat) (out : List OpR), scriptM (a ++ b) i out = if (scriptM a i out).1 = 0 then scriptM b (i + a.length) (scriptM a i out).2 else scriptM a i out
  | [], b, i, out => by simp [scriptM]
  | x :: a, b, i, out => by
    simp only [List.cons_append, scriptM, List.length_cons]
    split
    · rw [scriptM_append a b (i + 1) out, show i + 1 + a.length = i + (a.length + 1) by omega]
    · split
      · rw [scriptM_append a b (i + 1) _, show i + 1 + a.length = i + (a.length + 1) by omega]
      · simp
theorem scriptM_len : ∀ (a : List ByteArray) (i : Nat) (out : List OpR), (scriptM a i out).2.length ≤ out.length + a.length
  | [], _, _ => by simp [scriptM]
  | x :: a, i, out => by
    simp only [scriptM, List.length_cons]
    split
    · have := scriptM_len a (i + 1) out; omega
    · split
      · have := scriptM_len a (i + 1) (out ++ [(readM x.data.toList).1])
        simp at this
        omega
      · simp only; omega
theorem scriptM_end (a : List ByteArray) (i : Nat) (out : List OpR) : scriptM (a ++ [ByteArray.empty]) i out = scriptM a i out := by
  rw [scriptM_append]
  split
  · rename_i h
    simp [scriptM, skipB, ByteArray.empty, ByteArray.emptyWithCapacity]
    exact Prod.ext h.symm rfl
  · rfl

/-- Operations' cells. -/
def opV (l : List OpR) : List Value := l.flatMap fun x => x.cells.toList
theorem opV_append (a b : List OpR) : opV (a ++ b) = opV a ++ opV b := by simp [opV]
theorem opV_length (l : List OpR) : (opV l).length = l.length * 8 := by
  induction l with
  | nil => rfl
  | cons f l ih => simp only [opV, List.flatMap_cons, List.length_append, List.length_cons] at ih ⊢; rw [ih]; simp [OpR.cells]; omega
theorem opV_drop : ∀ (l : List OpR) (j : Nat), (opV l).drop (j * 8) = opV (l.drop j)
  | l, 0 => by simp
  | [], j + 1 => by simp [opV]
  | x :: l, j + 1 => by
    show (x.cells.toList ++ opV l).drop ((j + 1) * 8) = opV (l.drop j)
    rw [← opV_drop l j, show (j + 1) * 8 = 8 + j * 8 by omega, ← List.drop_drop]
    rfl
theorem opV_at (l : List OpR) (i : Nat) (h : i < l.length) (j : Nat) (hj : j < 8) : (opV l)[i * 8 + j]? = l[i].cells[j]? := by
  rw [← List.getElem?_drop, opV_drop, List.drop_eq_getElem_cons h]
  show (l[i].cells.toList ++ opV _)[j]? = _
  rw [List.getElem?_append_left (by simp [OpR.cells]; omega)]
  simp
theorem opV_one (l : List OpR) : ∀ u ∈ opV l, u.oneCell' = true := by
  intro u hu
  simp only [opV, List.mem_flatMap] at hu
  obtain ⟨f, _, hf⟩ := hu
  simp [OpR.cells] at hf
  rcases hf with rfl | rfl | rfl | rfl | rfl | rfl | rfl | rfl <;> rfl
end Go.Proofs.YtmeneoanmfpecaaDoor
