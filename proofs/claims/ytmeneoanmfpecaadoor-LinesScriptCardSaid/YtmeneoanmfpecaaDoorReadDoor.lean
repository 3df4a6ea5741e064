/- The door of the laws of lines: errors, the library's own MaxLen, and an operation by value. -/
import Derived.Test.YtmeneoanmfpecaaDoorRead
import Derived.Test.YtmeneoanmfpecaaDoorOpenEvent
import Derived.Test.YtmeneoanmfpecaaDoorOpenVals
import Derived.Test.YtmeneoanmfpecaaDoorShelf
import Derived.SizedLaws
import Derived.HandedShaped
namespace Go.Proofs.YtmeneoanmfpecaaDoor
set_option linter.unusedVariables false
set_option linter.unusedSimpArgs false
open Go.ChangeShapes Go.WideShapes Go.RowKit
section
variable {H : Type} {enc : TypeId × Value → H} {w : World} {base : Nat} {sp : Nat → Bool} {held : Bool}
theorem iface_of {P : Program} {fuel : Nat} {t : TypeId} {cs : List Value} {nm : String} {d : DataW H} {p : List MemPlace} (h : DataW.trod enc P w base sp held fuel t cs = some (.iface nm d, p)) : ∃ u v, cs = [.iface u v] := by
  cases fuel with
  | zero => cases h
  | succ n =>
    unfold DataW.trod at h
    simp only at h
    split at h
    all_goals first
      | exact ⟨_, _, rfl⟩
      | (exfalso; revert h; simp; done)
      | (exfalso; split at h <;> revert h <;> simp; done)
      | (exfalso; obtain ⟨x, hx, e⟩ := Option.map_eq_some_iff.1 h; cases e; done)
      | (exfalso; split at h <;> first | (obtain ⟨x, hx, e⟩ := Option.map_eq_some_iff.1 h; cases e; done) | (cases h; done))
      | (exfalso; split at h <;> first | (obtain ⟨y, hy, h⟩ := Option.bind_eq_some_iff.1 h; obtain ⟨x, hx, e⟩ := Option.map_eq_some_iff.1 h; cases e; done) | (cases h; done))
      | (exfalso; split at h <;> (try split at h) <;> first | (obtain ⟨y, hy, h⟩ := Option.bind_eq_some_iff.1 h; (try dsimp only at h); split at h <;> cases h; done) | (cases h; done))
theorem err_of {name : String} {cs : Array Value} {fuel : Nat} {t : TypeId} {nm : String} {d : DataW H} {p : List MemPlace}
    (hv : w.var? Tryd.prog name = some cs) (h : DataW.trod enc Tryd.prog w base sp held fuel t cs.toList = some (.iface nm d, p)) : ∃ tp q, w.var? Tryd.prog name = some #[.iface tp q] := by
  obtain ⟨u, v, e⟩ := iface_of h
  refine ⟨u, v, ?_⟩
  rw [hv]
  obtain ⟨l⟩ := cs
  subst e
  rfl
theorem maxl_of {W : World} (h : W.ShapedOpen Tryd.prog) : ∃ m, W.cell? ⟨3, 0, none⟩ = some (.int .i64 m) := Tryd.laysM145.s1_3 W h
set_option maxRecDepth 100000 in
theorem arg_op {r : Reach} {b0 : Nat} {v : Value} {d : DataW H} {p : List MemPlace} (hv : Value.okWide Tryd.prog w r b0 30 v) (h : DataW.Trod enc Tryd.prog w base sp held 30 v d p) :
    ∃ x : OpR, v = .agg x.cells := by
  obtain ⟨cs, rfl, hsz⟩ := okWide_struct Tryd.underlying30 hv
  obtain ⟨l⟩ := cs
  match l, hsz.trans cOp with
  | [c0, c1, c2, c3, c4, c5, c6, c7], _ =>
    obtain ⟨fuel, hf⟩ := h
    obtain ⟨x, hx⟩ := open_op hf
    refine ⟨x, ?_⟩
    exact congrArg Value.agg (congrArg Array.mk hx)
end
section
variable {H : Type} {enc : TypeId × Value → H}
theorem wrap_shaped {a : Assume} {C : Checked} {os : Os} {f : FuncId} {fn : Func} {s : ChangeSpec} {conds : List PathCond} {apart fresh handsOn again : Bool} {X : World → Array Value → Prop}
    (hX : ∀ (w w' : World) (args : Array Value), w.heap = w'.heap → X w args → X w' args)
    (own : ownKnob C.prog.godebug = none) (started : os.Started) (noInit : C.prog.inits.idxOf? f = none) (hfn : C.prog.funcs[f]? = some fn)
    (witness : ∃ (w : World) (tape : Tape) (i : Input), w.os = os ∧ (w.forCall tape i).Shaped C.prog ∧ i.vars = [] ∧ Input.okWide C.prog (w.forCall tape i) .any w.heap.size f i ∧
      ((s.pre enc C.prog fn conds apart (w.forCall tape i).memory i.args ∧ X (w.forCall tape i).memory i.args) ∧ sizedMet enc C.prog fn (OpenSpec.ofChange s) apart (w.forCall tape i).memory i.args) ∧ a.holds C.prog (lone (Frame.enter C.prog f i.args .normal) [] (w.forCall tape i)))
    (contract : ∀ (W : World) (base : Nat) (args : Array Value) (ds gs : List (DataW H)) (before : List MemPlace),
      (∀ (j : Nat) t v, fn.params[j]? = some t → args[j]? = some v → Value.okWide C.prog W .any base t v) →
      DataW.Whole enc C.prog fn.params.toList s.vars apart W args.toList ds gs before →
      conds.all (PathCond.test C.prog ⟨fn.params.toList, ds, s.plain.varTypes C.prog, gs⟩) = true →
      (DataW.weightsEach C.prog (fn.params.toList ++ s.plain.varTypes C.prog) (ds ++ gs)).all (· ≤ reachBytes) = true → X W args → W.ShapedOpen C.prog →
      a.holds C.prog (lone (Frame.enter C.prog f args .normal) [] W) →
      Calls C.prog f args W fun e W' => ∃ v, e = .returned v ∧ s.post enc C.prog fn apart fresh handsOn again W args v W') :
    ReturnsInHanded a C os f .any (fun w args => (s.pre enc C.prog fn conds apart w args ∧ X w args) ∧ sizedMet enc C.prog fn (OpenSpec.ofChange s) apart w args) (s.post enc C.prog fn apart fresh handsOn again) := by
  refine returnsInHanded_of_calls own started noInit witness ?_
  intro w tape i _ hsh _ hok hpre hholds
  obtain ⟨_, _, _, fn', hfn', _, _, _, _, hval⟩ := hok
  have e : fn' = fn := Option.some.inj (hfn'.symm.trans hfn)
  subst e
  obtain ⟨⟨⟨ds, gs, before, hw, hc⟩, hx⟩, hz⟩ := hpre
  have hw' := DataW.Whole.of_heap (w' := w.forCall tape i) (by rfl) hw
  refine (contract (w.forCall tape i) w.heap.size i.args ds gs before hval hw' hc (hz.weights hw) (hX _ _ _ (by rfl) hx) hsh hholds).mono fun e W' ⟨v, he, hp⟩ => ?_
  subst he
  exact ChangeSpec.post_blind hp
end
end Go.Proofs.YtmeneoanmfpecaaDoor
