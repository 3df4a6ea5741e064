/- The row of the law TraceWrites, and its tied card. -/
import Derived.Test.YtjmfdacnaodfdaaDoorCards
import Derived.Test.YtjmfdacnaodfdaaDoorTie
import Derived.Test.YtjmfdacnaodfdaaDoorK9
import Derived.Test.YtjmfdacnaodfdaaDoorK8
import Derived.WalkKit
import Derived.ProofKit
import Derived.OpenShut
import Derived.ShutString
import Derived.ChangeOld
import Derived.Below
import Derived.SizedLaws
import Derived.LaidMore
import Derived.Stop.Joined
import Derived.SevenTiedAt
import Derived.Lib.LaidTab
namespace Go.Proofs.YtjmfdacnaodfdaaDoor.traceWrites
open Go.ChangeShapes Go.WideShapes Go.ChangeAt Go.RowKit
open Go.ChangeMaps (open_string shut_string)
theorem own : ownKnob Tryd.prog.godebug = none := by kernel_rfl
theorem laidOut : laidOutB Tryd.prog = true := by kernel_rfl

theorem tab_of {W : World} {name : String} {k : IntKind} {zs : List Int} {T E : TypeId} {n : Nat} (hT : ((Tryd.prog.globalNamed name).bind fun g => (Tryd.prog.globals[g]?).map (·.type)) = some T)
    (ht : Tryd.prog.underlying T = some (.array n E)) (he : Tryd.prog.underlying E = some (.int k)) (hce : Tryd.prog.cellsOf E = 1) (hct : Tryd.prog.cellsOf T = n)
    {H : Type} {enc : TypeId × Value → H} {g' : Nat} {t' : TypeId} {cs : Array Value} {fuel base : Nat} {sp : Nat → Bool} {held : Bool} {p : List MemPlace} (hg' : Tryd.prog.globalNamed name = some g') (ht' : (Tryd.prog.globals[g']?).map (·.type) = some t')
    (hv : W.var? Tryd.prog name = some cs) (hd : DataW.trod enc Tryd.prog W base sp held fuel t' cs.toList = some (Lib.tabData k zs, p)) : Lib.TabIs Tryd.prog W name k zs := by
  rw [hg'] at hT
  simp only [Option.bind_some] at hT
  rw [ht'] at hT
  obtain rfl := Option.some.inj hT
  unfold Lib.TabIs
  rw [hv, ← Lib.cells_of_tab ht he hce hct hd]

set_option linter.unusedVariables false
set_option maxRecDepth 100000 in
theorem door_of {W : World} (h : laidMetH Tryd.prog (Rows.traceWritesRow.laid) W) : Flds W := by
  rw [MakeChecks.laidMetH_plain _ _ _ (by kernel_rfl)] at h
  obtain ⟨ps, ⟨g0, t0, cs0, f0, p0, q0, hg0, ht0, hv0, hd0, _, _⟩, _, _⟩ := h
  · rw [show Rows.laid_hearsay_ops_fields (H := Unit) = Lib.tabData .i64 fieldsTab by rfl] at hd0
    exact tab_of (T := 103) (by kernel_rfl) Tryd.underlying103 Tryd.underlying3 (by kernel_rfl) (by kernel_rfl) hg0 ht0 hv0 hd0

/-- The door's own heap meets the condition. -/
theorem door_met (os : Os) (args : Array Value) : laidMetH Tryd.prog (Rows.traceWritesRow.laid) ((World.doorLaid Tryd.prog 400 os).forCall (fun _ _ => 0) ⟨#[], args, []⟩).memory :=
  laidMetH_of_parts3 (fuel := 8) (laidMet_of_run' 8 (by kernel_rfl) (by kernel_rfl)) (by kernel_rfl) (by kernel_rfl)

set_option linter.unusedVariables false
set_option maxRecDepth 100000 in
theorem lifted (os : Os) (started : os.Started) (H : Type) (enc : TypeId × Value → H) :
    ReturnsInHanded {} Tryd.checked os 3 .any (fun w args => (Rows.traceWritesSpec.pre enc Tryd.prog Tryd.f3 [] false w args ∧ laidMetH Tryd.prog Rows.traceWritesRow.laid w) ∧ sizedMet enc Tryd.prog Tryd.f3 (OpenSpec.ofChange Rows.traceWritesSpec) false w args)
      (Rows.traceWritesSpec.post enc Tryd.prog Tryd.f3 false true false false) := by
  refine returnsInHanded_of_change_and (C := Tryd.checked) (X := fun w _ => laidMetH Tryd.prog Rows.traceWritesRow.laid w) (fun _ _ _ hh h => h.of_heap hh) own started (by kernel_rfl) Tryd.func3
    (ChangeSpec.witness_shaped (enc := enc) (C := Tryd.checked) (os := os) (X := fun w _ => laidMetH Tryd.prog Rows.traceWritesRow.laid w) false (World.doorLaid Tryd.prog 400 os) #[.slice none 0 0] 8 rfl (World.shaped_of_RefB (by kernel_rfl) (by kernel_rfl)) (by kernel_rfl) (by kernel_rfl) (by kernel_rfl) (door_met os _)) ?_
  intro W base args ds gs before hval0 hW hS1 hsz0 hL hS3
  have hval : ∀ (j : Nat) t v, Tryd.f3.params[j]? = some t → args[j]? = some v → Value.okWide Tryd.prog W .any base t v := hval0
  have hsz : (DataW.weightsEach Tryd.prog (Tryd.f3.params.toList ++ Rows.traceWritesSpec.plain.varTypes Tryd.prog) (ds ++ gs)).all (· ≤ reachBytes) = true := hsz0
  have hW' := hW
  obtain ⟨p, q, hA0, hV, rfl, hfz, hnd⟩ := hW
  have hA : DataW.TrodAll enc Tryd.prog W 0 (fun _ => true) true Tryd.f3.params.toList args.toList ds p := hA0
  rw [Tryd.params3] at hA hval hsz
  obtain ⟨v0, vs0, d0, ds0, p0, q0, hargs, rfl, rfl, h0, r0⟩ := trodAll_cons hA
  obtain ⟨rfl, rfl, rfl⟩ := trodAll_nil r0
  obtain rfl : args = #[v0] := by cases args; simp_all
  obtain ⟨rfl, rfl⟩ := trodVars_none hV
  have k0 := h0
  have lt0 : ∀ x ∈ p0, x.block < W.heap.size := by obtain ⟨m, hm⟩ := k0; exact DataW.trod_lt m _ _ _ hm
  obtain ⟨A0, c0, l0, rfl, ha0, hz0, hn0⟩ := arg_events (hval 0 22 v0 rfl rfl) h0 (fit_arg hsz 0 rfl rfl)
  clear hA0 hval0 hsz0
  refine (traceWrites_any A0 c0 l0 hz0 hn0 W (door_of hL) (Flds.pos (door_of hL)) ha0).mono fun e W' ⟨he, bel⟩ => ?_
  subst he
  exact ⟨_, rfl, _, _, _, [], _, [], hW', trodAll_mk1 (shut_bool Tryd.underlying4 _), (trodAll_cons_mk (Below.trod laidOut (by kernel_rfl) (of_decide_eq_true (by kernel_rfl)) k0 bel lt0) trodAll_mk0), rfl, bel.frame _, fun h => by cases h⟩
theorem over : Rows.traceWritesRow.holds Tryd.pinned (OpenSpec.ofChange Rows.traceWritesSpec) :=
  OpenClaim.holds_of_wide 3 Tryd.f3 rfl rfl rfl rfl rfl rfl rfl ⟨rfl, rfl, rfl, rfl, rfl⟩ rfl rfl rfl rfl rfl (by kernel_rfl) Tryd.func3 (by kernel_rfl)
    (of_decide_eq_true (by kernel_rfl)) (by unfold Func.isWrapper; first | (rw [if_pos (by decide +kernel)]; kernel_rfl) | (rw [if_neg (by decide +kernel)]; exact ⟨rfl, rfl⟩))
    (fun os started H enc _ => lifted os started H enc)
end Go.Proofs.YtjmfdacnaodfdaaDoor.traceWrites
namespace Go.Proofs.YtjmfdacnaodfdaaDoor
theorem traceWrites_row_holds : Rows.TraceWritesSaid := traceWrites.over
/-- The law TraceWrites, its tied card. -/
theorem traceWrites_holds : Rows.TraceWritesCardSaid :=
  Claim7.holds_tied_plain_at .later [] [.data] true (true, "7199814033fe264a51143e1c9e21861337c9ee31607889f8e11c333eef485c12") true
    traceWrites_row_holds (fun _ h => by cases h) (by kernel_rfl) (fun _ h => by cases h) traceWrites_row_tie rfl ⟨rfl, rfl⟩ (by kernel_rfl) rfl
    (fun f fn hf hfn => by
      obtain rfl : f = 3 := Option.some.inj ((show Tryd.prog.funcNamed "hearsay/hearsaylaw40.TraceWrites" = some 3 by kernel_rfl).symm.trans hf) |>.symm
      obtain rfl : fn = Tryd.f3 := (Option.some.inj (Tryd.func3.symm.trans hfn)).symm
      exact ⟨by kernel_rfl, fun j t ht => by
        rw [Tryd.params3] at ht
        have hm : t ∈ [22] := by simpa using Array.mem_of_getElem? ht
        have hall : ([22].all fun u => !Tryd.prog.wantsStandIn u) = true := by kernel_rfl
        exact (show Tryd.prog.wantsStandIn t = false by simpa using List.all_eq_true.1 hall t hm)⟩)
    (by kernel_rfl)
#print axioms traceWrites_holds
end Go.Proofs.YtjmfdacnaodfdaaDoor
