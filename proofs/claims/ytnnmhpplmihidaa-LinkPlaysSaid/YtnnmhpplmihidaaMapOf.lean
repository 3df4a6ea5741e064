/- Maps of the call's own, whatever the keys' and the elements' types: what is looked up, stored, deleted, counted, ranged over. -/
import Derived.Maps.RangeRun
import Derived.Maps.Own
import Derived.WalkKit
import Derived.RangeFuncRecord
import Derived.RangeFuncBox
import Derived.Below
namespace Go.Proofs.Ytnnmhpplmihidaa
set_option linter.unusedVariables false
set_option linter.unusedSimpArgs false
open Go.RowKit

section
variable {κ : Type} [DecidableEq κ]

omit [DecidableEq κ] in
theorem nodup_at : ∀ {l : List κ} {i j : Nat} {x : κ}, l.Nodup → l[i]? = some x → l[j]? = some x → i = j
  | [], _, _, _, _, h, _ => by simp at h
  | a :: l, 0, 0, x, _, _, _ => rfl
  | a :: l, 0, j + 1, x, hn, h1, h2 => by
    simp only [List.nodup_cons] at hn
    have e : a = x := by simpa using h1
    have h2' : l[j]? = some x := by simpa using h2
    exact absurd (List.mem_of_getElem? h2') (by rw [← e]; exact hn.1)
  | a :: l, i + 1, 0, x, hn, h1, h2 => by
    simp only [List.nodup_cons] at hn
    have e : a = x := by simpa using h2
    have h1' : l[i]? = some x := by simpa using h1
    exact absurd (List.mem_of_getElem? h1') (by rw [← e]; exact hn.1)
  | a :: l, i + 1, j + 1, x, hn, h1, h2 => by
    simp only [List.nodup_cons] at hn
    have := nodup_at (i := i) (j := j) (x := x) hn.2 (by simpa using h1) (by simpa using h2)
    rw [this]

theorem map_erase {α β : Type} (f : α → β) : ∀ (l : List α) (j : Nat), (l.eraseIdx j).map f = (l.map f).eraseIdx j
  | [], _ => rfl
  | a :: l, 0 => rfl
  | a :: l, j + 1 => by simp [map_erase f l j]

/-- What a type of keys has to pay. -/
structure KeyLaw (P : Program) (k : TypeId) (enc : κ → Value) : Prop where
  check : ∀ (w : World) (em : Bool) (x : κ), (Instr.checkKey em 10000 k (enc x)).run P w = .ok () w
  find : ∀ (w : World) (x : κ) (es : List MapEntry) (ks : List κ), es.map (·.key) = ks.map enc →
    ((Instr.findKey k (enc x) es).run P w = .ok none w ∧ x ∉ ks) ∨ ∃ j e, (Instr.findKey k (enc x) es).run P w = .ok (some (j, e.val)) w ∧ es[j]? = some e ∧ ks[j]? = some x
  stays : ∀ (w : World) (x : κ), (Instr.keyThatStays (enc x) (enc x)).run P w = .ok (enc x) w

theorem findAsking_of {P : Program} {k : TypeId} {enc : κ → Value} (heq : ∀ (w : World) (x y : κ), (Op.equal k (enc x) (enc y)).run P w = .ok (decide (x = y)) w) (w : World) (x : κ) : ∀ (es : List MapEntry) (ks : List κ) (i : Nat), es.map (·.key) = ks.map enc →
    ((Instr.findAsking k (enc x) es i).run P w = .ok none w ∧ x ∉ ks) ∨ ∃ j e, (Instr.findAsking k (enc x) es i).run P w = .ok (some (i + j, e.val)) w ∧ es[j]? = some e ∧ ks[j]? = some x
  | [], ks, i, h => by
    have : ks = [] := by simpa using h.symm
    subst this
    exact .inl ⟨by simp [Instr.findAsking], by simp⟩
  | e :: es, ks, i, h => by
    obtain ⟨y, ks, rfl⟩ : ∃ y ks', ks = y :: ks' := by
      cases ks with
      | nil => simp at h
      | cons y ks => exact ⟨y, ks, rfl⟩
    simp only [List.map_cons, List.cons.injEq] at h
    obtain ⟨h1, h2⟩ := h
    by_cases hxy : x = y
    · subst hxy
      refine .inr ⟨0, e, ?_, rfl, rfl⟩
      simp [Instr.findAsking, Sem.run_bind, h1, heq, Result.andThen]
    · have hr : (Instr.findAsking k (enc x) (e :: es) i).run P w = (Instr.findAsking k (enc x) es (i + 1)).run P w := by
        simp [Instr.findAsking, Sem.run_bind, h1, heq, Result.andThen, hxy]
      rw [hr]
      rcases findAsking_of heq w x es ks (i + 1) h2 with ⟨h3, h4⟩ | ⟨j, e', h3, h4, h5⟩
      · exact .inl ⟨h3, by simp [hxy, h4]⟩
      · exact .inr ⟨j + 1, e', by rw [h3]; congr 3; omega, by simpa using h4, by simpa using h5⟩

/-- m: keys and elements, in the order in which they came in. -/
def IsMap (enc : κ → Value) (w : World) (b : Nat) (m : List (κ × Value)) : Prop :=
  ∃ es clock, w.heap[b]? = some (.map es clock) ∧ es.toList.map (fun e => (e.key, e.val)) = m.map (fun p => (enc p.1, p.2)) ∧ (m.map Prod.fst).Nodup ∧ (∀ e ∈ es.toList, e.born < clock) ∧ (es.toList.map (·.born)).Nodup

def aget (m : List (κ × Value)) (x : κ) : Option Value := (m.find? fun p => decide (p.1 = x)).map (·.2)
def aput (m : List (κ × Value)) (x : κ) (v : Value) : List (κ × Value) := if x ∈ m.map Prod.fst then m.map (fun p => if p.1 = x then (x, v) else p) else m ++ [(x, v)]
def adel (m : List (κ × Value)) (x : κ) : List (κ × Value) := m.filter fun p => decide (p.1 ≠ x)

theorem aget_none {m : List (κ × Value)} {x : κ} (h : x ∉ m.map Prod.fst) : aget m x = none := by
  unfold aget
  rw [List.find?_eq_none.2 (fun p hp => by
    have : p.1 ≠ x := fun e => h (List.mem_map.2 ⟨p, hp, e⟩)
    simpa using this)]
  rfl

theorem aget_at : ∀ {m : List (κ × Value)} {x : κ} {v : Value} {j : Nat}, (m.map Prod.fst).Nodup → m[j]? = some (x, v) → aget m x = some v
  | [], _, _, _, _, h => by simp at h
  | p :: m, x, v, 0, hn, h => by
    have : p = (x, v) := by simpa using h
    subst this
    simp [aget]
  | p :: m, x, v, j + 1, hn, h => by
    simp only [List.map_cons, List.nodup_cons] at hn
    have h' : m[j]? = some (x, v) := by simpa using h
    have hne : p.1 ≠ x := fun e => hn.1 (by rw [e]; exact List.mem_map.2 ⟨(x, v), List.mem_of_getElem? h', rfl⟩)
    have := aget_at hn.2 h'
    unfold aget at this ⊢
    rw [List.find?_cons_of_neg (by simpa using hne)]
    exact this

theorem aget_mem {m : List (κ × Value)} {x : κ} {v : Value} (hn : (m.map Prod.fst).Nodup) (h : (x, v) ∈ m) : aget m x = some v := by
  obtain ⟨j, hj⟩ := List.mem_iff_getElem?.1 h
  exact aget_at hn hj

theorem mem_of_aget {m : List (κ × Value)} {x : κ} {v : Value} (h : aget m x = some v) : (x, v) ∈ m := by
  unfold aget at h
  cases hf : m.find? (fun p => decide (p.1 = x)) with
  | none => rw [hf] at h; simp at h
  | some p =>
    rw [hf] at h
    have h1 := List.mem_of_find?_eq_some hf
    have h2 := List.find?_some hf
    simp at h h2
    subst h h2
    exact h1

theorem aput_keys {m : List (κ × Value)} (x : κ) (v : Value) (hn : (m.map Prod.fst).Nodup) : ((aput m x v).map Prod.fst).Nodup := by
  unfold aput
  split
  · have : (m.map (fun p => if p.1 = x then (x, v) else p)).map Prod.fst = m.map Prod.fst := by
      rw [List.map_map]
      apply List.map_congr_left
      intro p _
      simp only [Function.comp]
      split
      · rename_i h; exact h.symm
      · rfl
    rw [this]; exact hn
  · rename_i h
    rw [List.map_append, List.nodup_append]
    refine ⟨hn, by simp, ?_⟩
    intro a ha b hb e
    simp at hb
    subst hb; subst e
    exact h ha

theorem mem_aput_keys {m : List (κ × Value)} (x y : κ) (v : Value) : y ∈ (aput m x v).map Prod.fst ↔ y = x ∨ y ∈ m.map Prod.fst := by
  unfold aput
  split
  · rename_i h
    have : (m.map (fun p => if p.1 = x then (x, v) else p)).map Prod.fst = m.map Prod.fst := by
      rw [List.map_map]
      apply List.map_congr_left
      intro p _
      simp only [Function.comp]
      split
      · rename_i h; exact h.symm
      · rfl
    rw [this]
    constructor
    · exact .inr
    · rintro (rfl | h')
      · exact h
      · exact h'
  · rw [List.map_append, List.mem_append]
    simp [or_comm]

theorem aget_aput (m : List (κ × Value)) (x y : κ) (v : Value) (hn : (m.map Prod.fst).Nodup) : aget (aput m x v) y = if y = x then some v else aget m y := by
  by_cases hy : y = x
  · subst hy
    rw [if_pos rfl]
    have hmem : (y, v) ∈ aput m y v := by
      unfold aput
      split
      · rename_i h
        obtain ⟨p, hp, rfl⟩ := List.mem_map.1 h
        exact List.mem_map.2 ⟨p, hp, by simp⟩
      · simp
    exact aget_mem (aput_keys y v hn) hmem
  · rw [if_neg hy]
    cases h : aget m y with
    | none =>
      refine aget_none ?_
      rw [mem_aput_keys]
      rintro (h' | h')
      · exact hy h'
      · obtain ⟨p, hp, rfl⟩ := List.mem_map.1 h'
        rw [aget_mem (x := p.1) (v := p.2) hn hp] at h
        cases h
    | some u =>
      have hm := mem_of_aget h
      refine aget_mem (aput_keys x v hn) ?_
      unfold aput
      split
      · exact List.mem_map.2 ⟨(y, u), hm, by simp [hy]⟩
      · exact List.mem_append_left _ hm

theorem adel_keys {m : List (κ × Value)} (x : κ) (hn : (m.map Prod.fst).Nodup) : ((adel m x).map Prod.fst).Nodup :=
  hn.sublist (List.filter_sublist.map _)

theorem adel_at : ∀ {m : List (κ × Value)} {j : Nat} {x : κ}, (m.map Prod.fst).Nodup → (m.map Prod.fst)[j]? = some x → adel m x = m.eraseIdx j
  | [], _, _, _, h => by simp at h
  | p :: m, 0, x, hn, h => by
    have e : p.1 = x := by simpa using h
    subst e
    simp only [List.map_cons, List.nodup_cons] at hn
    unfold adel
    rw [List.filter_cons_of_neg (by simp), List.eraseIdx_cons_zero]
    exact List.filter_eq_self.2 fun q hq => by
      have : q.1 ≠ p.1 := fun e' => hn.1 (List.mem_map.2 ⟨q, hq, e'⟩)
      simpa using this
  | p :: m, j + 1, x, hn, h => by
    have h' : (m.map Prod.fst)[j]? = some x := by simpa using h
    simp only [List.map_cons, List.nodup_cons] at hn
    have hne : p.1 ≠ x := fun e => hn.1 (by rw [e]; exact List.mem_of_getElem? h')
    have ih := adel_at hn.2 h'
    unfold adel at ih ⊢
    rw [List.filter_cons_of_pos (by simpa using hne), ih, List.eraseIdx_cons_succ]

theorem aget_adel (m : List (κ × Value)) (x y : κ) (hn : (m.map Prod.fst).Nodup) : aget (adel m x) y = if y = x then none else aget m y := by
  by_cases hy : y = x
  · subst hy
    rw [if_pos rfl]
    refine aget_none fun h => ?_
    obtain ⟨p, hp, rfl⟩ := List.mem_map.1 h
    have := (List.mem_filter.1 hp).2
    simp at this
  · rw [if_neg hy]
    cases h : aget m y with
    | none =>
      refine aget_none fun h' => ?_
      obtain ⟨p, hp, rfl⟩ := List.mem_map.1 h'
      rw [aget_mem (x := p.1) (v := p.2) hn (List.mem_filter.1 hp).1] at h
      cases h
    | some u =>
      refine aget_mem (adel_keys x hn) (List.mem_filter.2 ⟨mem_of_aget h, by simpa using hy⟩)

variable {P : Program} {k e : TypeId} {enc : κ → Value} {w : World} {b : Nat} {m : List (κ × Value)}

omit [DecidableEq κ] in
theorem IsMap.nodup (h : IsMap enc w b m) : (m.map Prod.fst).Nodup := by obtain ⟨_, _, _, _, h, _⟩ := h; exact h
omit [DecidableEq κ] in
theorem IsMap.lt (h : IsMap enc w b m) : b < w.heap.size := by obtain ⟨_, _, h, _⟩ := h; exact (Array.getElem?_eq_some_iff.1 h).1
omit [DecidableEq κ] in
theorem IsMap.same {w' : World} (h : IsMap enc w b m) (hm : w'.heap[b]? = w.heap[b]?) : IsMap enc w' b m := by
  obtain ⟨es, clock, hb, r⟩ := h
  exact ⟨es, clock, hm.trans hb, r⟩
omit [DecidableEq κ] in
theorem IsMap.keys (h : IsMap enc w b m) : ∃ es clock, w.heap[b]? = some (.map es clock) ∧ es.toList.map (·.key) = (m.map Prod.fst).map enc := by
  obtain ⟨es, clock, hb, he, _⟩ := h
  refine ⟨es, clock, hb, ?_⟩
  have := congrArg (List.map Prod.fst) he
  simpa [List.map_map, Function.comp_def] using this

omit [DecidableEq κ] in
theorem IsMap.made (w : World) : IsMap enc (w.alloc (.map #[] 0)) w.heap.size ([] : List (κ × Value)) :=
  ⟨#[], 0, World.alloc_heap_new w _, by simp, by simp, by simp, by simp⟩

omit [DecidableEq κ] in
theorem es_at {es : Array MapEntry} {m : List (κ × Value)} (he : es.toList.map (fun e => (e.key, e.val)) = m.map (fun p => (enc p.1, p.2))) {j : Nat} {q : MapEntry} {x : κ} (hq : es.toList[j]? = some q) (hx : (m.map Prod.fst)[j]? = some x) : m[j]? = some (x, q.val) := by
  have h1 := congrArg (fun l => l[j]?) he
  simp only [List.getElem?_map, hq, Option.map_some] at h1 hx
  cases hm : m[j]? with
  | none => rw [hm] at hx; simp at hx
  | some p =>
    rw [hm] at h1 hx
    simp at h1 hx
    subst hx
    rw [h1.2]

theorem IsMap.lookup (h : IsMap enc w b m) (K : KeyLaw P k enc) {t : TypeId} (ht : P.underlying t = some (.map k e)) (z : Value) (hz : (zeroValue e).run P w = .ok z w) (x : κ) :
    (Instr.lookup t (.map (some b)) (enc x) false).run P w = .ok ((aget m x).getD z) w ∧ (Instr.lookup t (.map (some b)) (enc x) true).run P w = .ok (.tuple #[(aget m x).getD z, .bool (aget m x).isSome]) w := by
  obtain ⟨es, clock, hb, he, hn, _⟩ := h
  have hk : es.toList.map (·.key) = (m.map Prod.fst).map enc := by
    have := congrArg (List.map Prod.fst) he
    simpa [List.map_map, Function.comp_def] using this
  rcases K.find w x es.toList _ hk with ⟨h1, h2⟩ | ⟨j, q, h1, h2, h3⟩
  · rw [aget_none h2]
    constructor <;> simp [Instr.lookup, Sem.run_bind, run_underlying ht, getObj, Sem.run, hb, K.check, h1, hz, Result.andThen]
  · rw [aget_at hn (es_at he h2 h3)]
    constructor <;> simp [Instr.lookup, Sem.run_bind, run_underlying ht, getObj, Sem.run, hb, K.check, h1, Result.andThen]

theorem run_setObj_map {w : World} {r : Nat} {es : Array MapEntry} {c : Nat} (hr : w.heap[r]? = some (.map es c)) (o' : Obj) : (setObj r o').run P w = .ok () (w.putObj r o') := by
  simp [setObj, Sem.run, hr, World.putObj]

theorem IsMap.update (h : IsMap enc w b m) (K : KeyLaw P k enc) {t : TypeId} (ht : P.underlying t = some (.map k e)) (x : κ) (v : Value) :
    ∃ o, (Instr.mapUpdate t (.map (some b)) (enc x) v).run P w = .ok () (w.putObj b o) ∧ IsMap enc (w.putObj b o) b (aput m x v) := by
  have hlt := h.lt
  obtain ⟨es, clock, hb, he, hn, hbo, hbn⟩ := h
  have hk : es.toList.map (·.key) = (m.map Prod.fst).map enc := by
    have := congrArg (List.map Prod.fst) he
    simpa [List.map_map, Function.comp_def] using this
  rcases K.find w x es.toList _ hk with ⟨h1, h2⟩ | ⟨j, q, h1, h2, h3⟩
  · refine ⟨.map (es.push { key := enc x, val := v, born := clock }) (clock + 1), ?_, _, _, World.putObj_heap_same hlt, ?_, aput_keys x v hn, ?_, ?_⟩
    · simp [Instr.mapUpdate, Sem.run_bind, run_underlying ht, getObj, Sem.run, hb, K.check, h1, Result.andThen]
      exact run_setObj_map hb _
    · unfold aput
      rw [if_neg h2]
      simp [he]
    · intro q hq
      simp at hq
      rcases hq with hq | rfl
      · have := hbo q (by simpa using hq); omega
      · simp
    · rw [Array.toList_push, List.map_append, List.nodup_append]
      refine ⟨hbn, by simp, ?_⟩
      intro a ha c hc e'
      simp at hc
      subst hc; subst e'
      obtain ⟨q, hq, hq'⟩ := List.mem_map.1 ha
      have := hbo q hq
      omega
  · have hj : j < es.size := by
      have := (List.getElem?_eq_some_iff.1 h2).1
      simpa using this
    have hq : es[j] = q := by
      have := (List.getElem?_eq_some_iff.1 h2).2
      simpa using this
    have hqk : q.key = enc x := by
      have h4 := congrArg (fun l => l[j]?) hk
      simp only [List.getElem?_map, h2, Option.map_some] at h4
      rw [List.getElem?_map] at h3
      cases hm : m[j]? with
      | none => rw [hm] at h3; simp at h3
      | some p => rw [hm] at h4 h3; simp at h4 h3; subst h3; exact h4
    have hmj := es_at he h2 h3
    have hxm : x ∈ m.map Prod.fst := List.mem_of_getElem? h3
    refine ⟨.map (es.modify j fun e => { e with key := enc x, val := v }) clock, ?_, _, _, World.putObj_heap_same hlt, ?_, aput_keys x v hn, ?_, ?_⟩
    · have hg : es[j]? = some q := by rw [Array.getElem?_eq_getElem hj, hq]
      simp [Instr.mapUpdate, Sem.run_bind, run_underlying ht, getObj, Sem.run, hb, K.check, h1, hg, hqk, K.stays, Result.andThen]
      exact run_setObj_map hb _
    · unfold aput
      rw [if_pos hxm]
      apply List.ext_getElem?
      intro i
      have hei := congrArg (fun l => l[i]?) he
      simp only [List.getElem?_map, Array.getElem?_toList] at hei
      simp only [List.getElem?_map, Array.getElem?_toList, Array.getElem?_modify]
      by_cases hij : j = i
      · subst hij
        rw [if_pos rfl, Array.getElem?_eq_getElem hj, hmj]
        simp
      · rw [if_neg hij, hei]
        cases hmi : m[i]? with
        | none => rfl
        | some p =>
          have hpx : p.1 ≠ x := by
            intro e'
            refine hij ?_
            have h5 : (m.map Prod.fst)[i]? = some x := by rw [List.getElem?_map, hmi]; simp [e']
            exact nodup_at hn h3 h5
          simp [hpx]
    · intro q' hq'
      obtain ⟨i, hi, rfl⟩ := List.mem_iff_getElem.1 hq'
      have hi' : i < es.size := by simpa using hi
      have hme : es[i] ∈ es.toList := by simp
      simp only [Array.getElem_toList, Array.getElem_modify]
      split
      · exact hbo es[i] hme
      · exact hbo es[i] hme
    · have : ((es.modify j fun e => { e with key := enc x, val := v }).toList.map (·.born)) = es.toList.map (·.born) := by
        apply List.ext_getElem?
        intro i
        simp only [List.getElem?_map, Array.getElem?_toList, Array.getElem?_modify]
        split
        · cases es[i]? <;> rfl
        · rfl
      rw [this]; exact hbn

theorem IsMap.delete (h : IsMap enc w b m) (K : KeyLaw P k enc) {t kt ty : TypeId} (ht : P.underlying t = some (.map k e)) (x : κ) :
    ∃ o, (Builtin.delete_ #[t, kt] ty #[.map (some b), enc x]).run P w = .ok (.tuple #[]) (w.putObj b o) ∧ IsMap enc (w.putObj b o) b (adel m x) := by
  have hlt := h.lt
  obtain ⟨es, clock, hb, he, hn, hbo, hbn⟩ := h
  have hk : es.toList.map (·.key) = (m.map Prod.fst).map enc := by
    have := congrArg (List.map Prod.fst) he
    simpa [List.map_map, Function.comp_def] using this
  rcases K.find w x es.toList _ hk with ⟨h1, h2⟩ | ⟨j, q, h1, h2, h3⟩
  · refine ⟨.map es clock, ?_, es, clock, World.putObj_heap_same hlt, ?_, adel_keys x hn, hbo, hbn⟩
    · simp [Builtin.delete_, Sem.run_bind, run_underlying ht, getObj, Sem.run, hb, K.check, h1, Result.andThen]
      rw [run_setObj_map hb]
    · have : adel m x = m := List.filter_eq_self.2 fun p hp => by
        have : p.1 ≠ x := fun e' => h2 (List.mem_map.2 ⟨p, hp, e'⟩)
        simpa using this
      rw [this]; exact he
  · have hj : j < es.size := by
      have := (List.getElem?_eq_some_iff.1 h2).1
      simpa using this
    have hjm : j < m.length := by
      have := (List.getElem?_eq_some_iff.1 h3).1
      simpa using this
    have hx : (m.map Prod.fst)[j]'(by simpa using hjm) = x := (List.getElem?_eq_some_iff.1 h3).2
    refine ⟨.map (es.eraseIdxIfInBounds j) clock, ?_, _, _, World.putObj_heap_same hlt, ?_, adel_keys x hn, ?_, ?_⟩
    · simp [Builtin.delete_, Sem.run_bind, run_underlying ht, getObj, Sem.run, hb, K.check, h1, Result.andThen]
      rw [run_setObj_map hb]
    · have e1 : (es.eraseIdxIfInBounds j).toList = es.toList.eraseIdx j := by
        rw [Array.eraseIdxIfInBounds, dif_pos hj]; simp
      have e2 : adel m x = m.eraseIdx j := adel_at hn h3
      rw [e1, e2, map_erase, map_erase, he]
    · intro q' hq'
      have e1 : (es.eraseIdxIfInBounds j).toList = es.toList.eraseIdx j := by
        rw [Array.eraseIdxIfInBounds, dif_pos hj]; simp
      rw [e1] at hq'
      exact hbo q' ((List.eraseIdx_sublist _ _).mem hq')
    · have e1 : (es.eraseIdxIfInBounds j).toList = es.toList.eraseIdx j := by
        rw [Array.eraseIdxIfInBounds, dif_pos hj]; simp
      rw [e1]
      exact hbn.sublist ((List.eraseIdx_sublist _ _).map _)

omit [DecidableEq κ] in
theorem IsMap.len (h : IsMap enc w b m) {t ty : TypeId} (ht : P.underlying t = some (.map k e)) :
    (Builtin.len_ #[t] ty #[.map (some b)]).run P w = .ok (.int .i64 m.length) w := by
  obtain ⟨es, clock, hb, he, _⟩ := h
  have hl : es.size = m.length := by simpa using congrArg List.length he
  simp [Builtin.len_, Sem.run_bind, run_underlying ht, getObj, Sem.run, hb, Result.andThen, hl, goInt]

/-! ### At the operations -/
section
variable {ops : Array Oper} {rest : List Oper} {o : Oper} {a : Act} {Q : Exit → Act → World → Prop}

theorem wpList_lookup_map (hg : o.guard = none) (mo x : Operand) (t : TypeId) (hop : o.op = Op.lookup t mo x false) (K : KeyLaw P k enc) (ht : P.underlying t = some (.map k e)) (z : Value) (hz : (zeroValue e).run P w = .ok z w)
    (hm : a.eval mo = .map (some b)) (h : IsMap enc w b m) (key : κ) (hx : a.eval x = enc key)
    (hK : wpList P ops Q rest (a.put o.dst ((aget m key).getD z)) w) : wpList P ops Q (o :: rest) a w := by
  refine wpList_plain hg fun K' hK' => ?_
  have hrun := (h.lookup K ht z hz key).1
  unfold Oper.wp
  simp [execOp, hop, hm, hx, hrun, Result.andThen]
  exact hK' _ _ hK

theorem wpList_lookup_ok_map (hg : o.guard = none) (mo x : Operand) (t : TypeId) (hop : o.op = Op.lookup t mo x true) (K : KeyLaw P k enc) (ht : P.underlying t = some (.map k e)) (z : Value) (hz : (zeroValue e).run P w = .ok z w)
    (hm : a.eval mo = .map (some b)) (h : IsMap enc w b m) (key : κ) (hx : a.eval x = enc key)
    (hK : wpList P ops Q rest (a.put o.dst (.tuple #[(aget m key).getD z, .bool (aget m key).isSome])) w) : wpList P ops Q (o :: rest) a w := by
  refine wpList_plain hg fun K' hK' => ?_
  have hrun := (h.lookup K ht z hz key).2
  unfold Oper.wp
  simp [execOp, hop, hm, hx, hrun, Result.andThen]
  exact hK' _ _ hK

theorem wpList_mapUpdate_map (hg : o.guard = none) (mo x v : Operand) (t : TypeId) (hop : o.op = Op.mapUpdate t mo x v) (K : KeyLaw P k enc) (ht : P.underlying t = some (.map k e))
    (hm : a.eval mo = .map (some b)) (h : IsMap enc w b m) (key : κ) (hx : a.eval x = enc key) (val : Value) (hv : a.eval v = val)
    (hK : ∀ w', IsMap enc w' b (aput m key val) → w.grownBy w' (some b) → w'.heap.size = w.heap.size → wpList P ops Q rest (a.put o.dst undef) w') : wpList P ops Q (o :: rest) a w := by
  refine wpList_plain hg fun K' hK' => ?_
  obtain ⟨ob, hrun, h'⟩ := h.update K ht key val
  unfold Oper.wp
  simp [execOp, hop, hm, hx, hv, hrun, Result.andThen]
  exact hK' _ _ (hK _ h' (grownBy_putObj' _ _ _) (by simp))

theorem wpList_delete_map (hg : o.guard = none) (mo x : Operand) (t kt : TypeId) (hop : o.op = Op.call { callee := Callee.builtin Builtin.delete, args := #[mo, x], argTypes := #[t, kt] }) (K : KeyLaw P k enc) (ht : P.underlying t = some (.map k e))
    (hm : a.eval mo = .map (some b)) (h : IsMap enc w b m) (key : κ) (hx : a.eval x = enc key)
    (hK : ∀ w', IsMap enc w' b (adel m key) → w.grownBy w' (some b) → w'.heap.size = w.heap.size → wpList P ops Q rest (a.put o.dst (.tuple #[])) w') : wpList P ops Q (o :: rest) a w := by
  refine wpList_plain hg fun K' hK' => ?_
  obtain ⟨ob, hrun, h'⟩ := h.delete (kt := kt) (ty := o.type) K ht key
  unfold Oper.wp
  simp [execOp, hop, resolve, invoke, builtin, hm, hx, hrun, Result.andThen]
  exact hK' _ _ (hK _ h' (grownBy_putObj' _ _ _) (by simp))

omit [DecidableEq κ] in
theorem wpList_len_map (hg : o.guard = none) (mo : Operand) (t : TypeId) (hop : o.op = Op.call { callee := Callee.builtin Builtin.len, args := #[mo], argTypes := #[t] }) (ht : P.underlying t = some (.map k e))
    (hm : a.eval mo = .map (some b)) (h : IsMap enc w b m)
    (hK : wpList P ops Q rest (a.put o.dst (.int .i64 m.length)) w) : wpList P ops Q (o :: rest) a w := by
  refine wpList_plain hg fun K' hK' => ?_
  unfold Oper.wp
  simp [execOp, hop, resolve, invoke, builtin, hm, h.len ht, Result.andThen]
  exact hK' _ _ hK
end

section
variable {ops : Array Oper} {o : Oper} {a : Act} {K' : Act → World → Prop} {Q : Exit → Act → World → Prop} {E : Prop}

/-- At a step of a region that draws its order. -/
theorem step_mapUpdate_map (hg : o.guard = none) (mo x v : Operand) (t : TypeId) (hop : o.op = Op.mapUpdate t mo x v) (K : KeyLaw P k enc) (ht : P.underlying t = some (.map k e))
    (hm : a.eval mo = .map (some b)) (h : IsMap enc w b m) (key : κ) (hx : a.eval x = enc key) (val : Value) (hv : a.eval v = val)
    (hK : ∀ w', IsMap enc w' b (aput m key val) → w.grownBy w' (some b) → w'.heap.size = w.heap.size → K' (a.put o.dst undef) w') :
    if Region.wanted o (yielded ops a.tmps) = true then Oper.wp P o a w K' Q else E := by
  have hw : Region.wanted o (yielded ops a.tmps) = true := by simp [Region.wanted, hg]
  rw [if_pos hw]
  obtain ⟨ob, hrun, h'⟩ := h.update K ht key val
  unfold Oper.wp
  simp [execOp, hop, hm, hx, hv, hrun, Result.andThen]
  exact hK _ h' (grownBy_putObj' _ _ _) (by simp)

theorem step_delete_map (hg : o.guard = none) (mo x : Operand) (t kt : TypeId) (hop : o.op = Op.call { callee := Callee.builtin Builtin.delete, args := #[mo, x], argTypes := #[t, kt] }) (K : KeyLaw P k enc) (ht : P.underlying t = some (.map k e))
    (hm : a.eval mo = .map (some b)) (h : IsMap enc w b m) (key : κ) (hx : a.eval x = enc key)
    (hK : ∀ w', IsMap enc w' b (adel m key) → w.grownBy w' (some b) → w'.heap.size = w.heap.size → K' (a.put o.dst (.tuple #[])) w') :
    if Region.wanted o (yielded ops a.tmps) = true then Oper.wp P o a w K' Q else E := by
  have hw : Region.wanted o (yielded ops a.tmps) = true := by simp [Region.wanted, hg]
  rw [if_pos hw]
  obtain ⟨ob, hrun, h'⟩ := h.delete (kt := kt) (ty := o.type) K ht key
  unfold Oper.wp
  simp [execOp, hop, resolve, invoke, builtin, hm, hx, hrun, Result.andThen]
  exact hK _ h' (grownBy_putObj' _ _ _) (by simp)
end

/-! ### Ranged over, by a round that leaves the map alone -/
/-- The iterator in block r has handed out the entries `done`, and `left` are to come. -/
def Ranging (enc : κ → Value) (w : World) (r b : Nat) (m done left : List (κ × Value)) : Prop :=
  ∃ es clock seen, w.heap[b]? = some (.map es clock) ∧ w.heap[r]? = some (.mapIter (some b) clock seen clock) ∧ (∀ e ∈ es.toList, e.born < clock) ∧ (es.toList.map (·.born)).Nodup ∧
    (leftOf es seen).toList.map (fun e => (e.key, e.val)) = left.map (fun p => (enc p.1, p.2)) ∧ (done ++ left).Perm m

omit [DecidableEq κ] in
theorem IsMap.ranging (h : IsMap enc w b m) : ∃ clock, w.heap[b]?.isSome ∧ (∀ {t : TypeId} (ht : P.underlying t = some (.map k e)), (Instr.range t (.map (some b))).run P w = .ok (.pointer (some ⟨w.heap.size, 0, none⟩)) (w.alloc (.mapIter (some b) clock #[] clock))) ∧
    Ranging enc (w.alloc (.mapIter (some b) clock #[] clock)) w.heap.size b m [] m := by
  have hlt := h.lt
  obtain ⟨es, clock, hb, he, hn, hbo, hbn⟩ := h
  refine ⟨clock, by rw [hb]; rfl, fun ht => ?_, es, clock, #[], (Below.heap_alloc _ _ _ hlt).trans hb, World.alloc_heap_new w _, hbo, hbn, ?_, by simp⟩
  · simp [Instr.range, Sem.run_bind, run_underlying ht, getObj, Sem.run, hb, run_newObj_alloc, Result.andThen]
  · have : (leftOf es #[]).toList = es.toList := by
      unfold leftOf
      rw [Array.toList_filter]
      exact List.filter_eq_self.2 fun x _ => by simp
    rw [this, he]

omit [DecidableEq κ] in
theorem Ranging.next (ty : TypeId) {r : Nat} {done left : List (κ × Value)} (hrb : r ≠ b) (h : Ranging enc w r b m done left) :
    (left = [] ∧ (Instr.next (.pointer (some ⟨r, 0, none⟩)) false ty).run P w = .ok (.tuple #[.bool false]) w) ∨
    ∃ p left' w', left.Perm (p :: left') ∧ (Instr.next (.pointer (some ⟨r, 0, none⟩)) false ty).run P w = .ok (.tuple #[.bool true, enc p.1, p.2]) w' ∧ Ranging enc w' r b m (done ++ [p]) left' ∧ w.grownBy w' (some r) ∧ w'.heap.size = w.heap.size ∧
      (Instr.entry (.pointer (some ⟨r, 0, none⟩))).run P w' = .ok (.tuple #[enc p.1, p.2]) w' := by
  obtain ⟨es, clock, seen, hb, hr, hbo, hbn, hl, hp⟩ := h
  rcases run_next_at (P := P) w ty r b clock clock seen es clock hr hb hbo (Nat.le_refl _) with ⟨h0, hrun⟩ | ⟨q, hq, w1, hw1, hrun⟩
  · refine .inl ⟨?_, hrun⟩
    have : (leftOf es seen).toList = [] := by
      have : (leftOf es seen).toList.length = 0 := by simpa using h0
      exact List.length_eq_zero_iff.1 this
    rw [this] at hl
    simpa using hl.symm
  · right
    obtain ⟨l1, l2, hs⟩ := List.append_of_mem hq
    rw [hs] at hl
    obtain ⟨a1, a2, rfl, ha1, ha2⟩ : ∃ a1 a2, left = a1 ++ a2 ∧ l1.map (fun e => (e.key, e.val)) = a1.map (fun p => (enc p.1, p.2)) ∧ (q :: l2).map (fun e => (e.key, e.val)) = a2.map (fun p => (enc p.1, p.2)) := by
      rw [List.map_append] at hl
      obtain ⟨a1, a2, h1, h2, h3⟩ := List.map_eq_append_iff.1 hl.symm
      exact ⟨a1, a2, h1, h2.symm, h3.symm⟩
    obtain ⟨p, a2, rfl, hp1, hp2⟩ : ∃ p a2', a2 = p :: a2' ∧ (q.key, q.val) = (enc p.1, p.2) ∧ l2.map (fun e => (e.key, e.val)) = a2'.map (fun p => (enc p.1, p.2)) := by
      cases a2 with
      | nil => simp at ha2
      | cons p a2 =>
        simp only [List.map_cons, List.cons.injEq] at ha2
        exact ⟨p, a2, rfl, ha2.1, ha2.2⟩
    simp only [Prod.mk.injEq] at hp1
    have hw1h : w1.heap = w.heap := by rcases hw1 with rfl | rfl <;> rfl
    have hrl : r < w.heap.size := (Array.getElem?_eq_some_iff.1 hr).1
    have hq' : q ∈ es.toList := by
      have : q ∈ (leftOf es seen).toList := hq
      unfold leftOf at this
      simp at this
      simpa using this.1
    have hmod : ∀ o, (Go.ChangeMaps.setBlock w1 r o).heap = w.heap.setIfInBounds r o := fun o => by simp [Go.ChangeMaps.setBlock, hw1h]
    have hr' : (Go.ChangeMaps.setBlock w1 r (.mapIter (some b) clock (seen.push q.born) clock)).heap[r]? = some (.mapIter (some b) clock (seen.push q.born) clock) := by rw [hmod]; simp [hrl]
    have hb' : (Go.ChangeMaps.setBlock w1 r (.mapIter (some b) clock (seen.push q.born) clock)).heap[b]? = some (.map es clock) := by rw [hmod, Array.getElem?_setIfInBounds_ne hrb]; exact hb
    refine ⟨p, a1 ++ a2, _, List.perm_middle, by rw [hrun, hp1.1, hp1.2], ⟨es, clock, seen.push q.born, hb', hr', hbo, hbn, ?_, ?_⟩, ?_, by rw [hmod]; simp, ?_⟩
    · have hnd : ((leftOf es seen).toList.map (·.born)).Nodup := by
        unfold leftOf
        rw [Array.toList_filter]
        exact hbn.sublist (List.filter_sublist.map _)
      have hf : leftOf es (seen.push q.born) = (leftOf es seen).filter (fun e => e.born != q.born) := by
        unfold leftOf
        rw [Array.filter_filter]
        congr 1
        funext x
        rw [Array.contains_push, Bool.not_or, Bool.and_comm]
        rfl
      rw [hf, Array.toList_filter, hs]
      rw [hs] at hnd
      rw [List.map_append, List.map_cons, List.nodup_append] at hnd
      obtain ⟨h1, h2, h3⟩ := hnd
      rw [List.nodup_cons] at h2
      have f1 : l1.filter (fun e => e.born != q.born) = l1 := List.filter_eq_self.2 fun x hx => by
        have := h3 x.born (List.mem_map.2 ⟨x, hx, rfl⟩) q.born (by simp)
        simpa using this
      have f2 : l2.filter (fun e => e.born != q.born) = l2 := List.filter_eq_self.2 fun x hx => by
        have : x.born ≠ q.born := fun e' => h2.1 (by rw [← e']; exact List.mem_map.2 ⟨x, hx, rfl⟩)
        simpa using this
      rw [List.filter_append, List.filter_cons_of_neg (by simp), f1, f2, List.map_append, List.map_append, ha1, hp2]
    · refine List.Perm.trans ?_ hp
      rw [List.append_assoc]
      exact List.Perm.append_left done (show ([p] ++ (a1 ++ a2)).Perm (a1 ++ p :: a2) from (List.perm_middle (a := p) (l₁ := a1) (l₂ := a2)).symm)
    · refine ⟨?_, ?_, ?_, by rw [hmod]; simp, fun j hj hne => ?_⟩
      · rcases hw1 with rfl | rfl <;> rfl
      · rcases hw1 with rfl | rfl <;> rfl
      · rcases hw1 with rfl | rfl <;> rfl
      · rw [hmod, Array.getElem?_setIfInBounds_ne (fun e' => hne (by rw [e']))]
    · rw [run_entry_at (P := P) _ r b clock seen es clock q hr' hb' hq' hbn, hp1.1, hp1.2]

section
variable {ops : Array Oper} {rest : List Oper} {o : Oper} {a : Act} {Q : Exit → Act → World → Prop}
omit [DecidableEq κ] in
theorem wpList_range_map (hg : o.guard = none) (mo : Operand) (t : TypeId) (hop : o.op = Op.range t mo) (ht : P.underlying t = some (.map k e)) (hm : a.eval mo = .map (some b)) (h : IsMap enc w b m)
    (hK : ∀ w', Ranging enc w' w.heap.size b m [] m → w.grownBy w' none → w'.heap.size = w.heap.size + 1 → wpList P ops Q rest (a.put o.dst (.pointer (some ⟨w.heap.size, 0, none⟩))) w') : wpList P ops Q (o :: rest) a w := by
  refine wpList_plain hg fun K' hK' => ?_
  obtain ⟨clock, _, hrun, hr⟩ := h.ranging (P := P) (k := k) (e := e)
  unfold Oper.wp
  simp [execOp, hop, hm, hrun ht, Result.andThen]
  exact hK' _ _ (hK _ hr (World.grownBy_alloc _ _ none) (by simp))

omit [DecidableEq κ] in
theorem wpList_next_map (hg : o.guard = none) (it : Operand) (hop : o.op = Op.next it false) {r : Nat} {done left : List (κ × Value)} (hit : a.eval it = .pointer (some ⟨r, 0, none⟩)) (hrb : r ≠ b) (h : Ranging enc w r b m done left)
    (hDone : left = [] → wpList P ops Q rest (a.put o.dst (.tuple #[.bool false])) w)
    (hMore : ∀ p left' w', left.Perm (p :: left') → Ranging enc w' r b m (done ++ [p]) left' → w.grownBy w' (some r) → w'.heap.size = w.heap.size → (Instr.entry (.pointer (some ⟨r, 0, none⟩))).run P w' = .ok (.tuple #[enc p.1, p.2]) w' →
      wpList P ops Q rest (a.put o.dst (.tuple #[.bool true, enc p.1, p.2])) w') : wpList P ops Q (o :: rest) a w := by
  refine wpList_plain hg fun K' hK' => ?_
  unfold Oper.wp
  rcases h.next (P := P) o.type hrb with ⟨h0, hrun⟩ | ⟨p, left', w', hp, hrun, hr, hgr, hsz, hen⟩
  · simp [execOp, hop, hit, hrun, Result.andThen]
    exact hK' _ _ (hDone h0)
  · simp [execOp, hop, hit, hrun, Result.andThen]
    exact hK' _ _ (hMore p left' w' hp hr hgr hsz hen)
end

end
end Go.Proofs.Ytnnmhpplmihidaa
