/- The row of the law LinesScript, and its tied card. -/
import Derived.Test.YtmeneoanmfpecaaDoorCards
import Derived.Test.YtmeneoanmfpecaaDoorTie
import Derived.Test.YtmeneoanmfpecaaDoorLinesScript
import Derived.Test.YtmeneoanmfpecaaDoorStrsDoor
import Derived.WalkKit
import Derived.ProofKit
import Derived.OpenShut
import Derived.ShutString
import Derived.ChangeOld
import Derived.Below
import Derived.SizedLaws
import Derived.LaidMore
import Derived.Lay
import Derived.Stop.Joined
import Derived.SevenTiedAt
import Derived.Lib.LaidTab
namespace Go.Proofs.YtmeneoanmfpecaaDoor.linesScript
open Go.ChangeShapes Go.WideShapes Go.ChangeAt Go.RowKit
open Go.ChangeMaps (open_string shut_string)
theorem own : ownKnob Tryd.prog.godebug = none := by kernel_rfl
theorem laidOut : laidOutB Tryd.prog = true := by kernel_rfl

theorem tab_of {W : World} {name : String} {k : IntKind} {zs : List Int} {T E : TypeId} {n : Nat} (hT : ((Tryd.prog.globalNamed name).bind fun g => (Tryd.prog.globals[g]?).map (·.type)) = some T)
    (ht : Tryd.prog.underlying T = some (.array n E)) (he : Tryd.prog.underlying E = some (.int k)) (hce : Tryd.prog.cellsOf E = 1) (hct : Tryd.prog.cellsOf T = n)
    {H : Type} {enc : TypeId × Value → H} {g' : Nat} {t' : TypeId} {cs : Array Value} {fuel base : Nat} {sp : Nat → Bool} {held : Bool} {p : List MemPlace} (hg' : Tryd.prog.globalNamed name = some g') (ht' : (Tryd.prog.globals[g']?).map (·.type) = some t')
    (hv : W.var? Tryd.prog name = some cs) (hd : DataW.trod enc Tryd.prog W base sp held fuel t' cs.toList = some (Lib.tabData k zs, p)) : Lib.TabIs Tryd.prog W name k zs := by
  rw [hg'] at hT
  simp only [Option.bind_some] at hT
  rw [ht'] at hT
  obtain rfl := Option.some.inj hT
  unfold Lib.TabIs
  rw [hv, ← Lib.cells_of_tab ht he hce hct hd]

set_option linter.unusedVariables false
set_option maxRecDepth 100000 in
theorem door_of {W : World} (hsh : W.ShapedOpen Tryd.prog) (h : laidMetH Tryd.prog (Rows.linesScriptRow.laid) W) : Door2 W := by
  rw [MakeChecks.laidMetH_plain _ _ _ (by kernel_rfl)] at h
  obtain ⟨ps, ⟨g0, t0, cs0, f0, p0, q0, hg0, ht0, hv0, hd0, ⟨g1, t1, cs1, f1, p1, q1, hg1, ht1, hv1, hd1, ⟨g2, t2, cs2, f2, p2, q2, hg2, ht2, hv2, hd2, ⟨g3, t3, cs3, f3, p3, q3, hg3, ht3, hv3, hd3, ⟨g4, t4, cs4, f4, p4, q4, hg4, ht4, hv4, hd4, ⟨g5, t5, cs5, f5, p5, q5, hg5, ht5, hv5, hd5, ⟨g6, t6, cs6, f6, p6, q6, hg6, ht6, hv6, hd6, ⟨g7, t7, cs7, f7, p7, q7, hg7, ht7, hv7, hd7, ⟨g8, t8, cs8, f8, p8, q8, hg8, ht8, hv8, hd8, ⟨g9, t9, cs9, f9, p9, q9, hg9, ht9, hv9, hd9, _, _⟩, _⟩, _⟩, _⟩, _⟩, _⟩, _⟩, _⟩, _⟩, _⟩, _, _⟩ := h
  refine ⟨⟨?_, ?_, ?_⟩, ?_, ?_, maxl_of hsh⟩
  · rw [show Rows.laid_hearsay_ops_fields (H := Unit) = Lib.tabData .i64 fieldsTab by rfl] at hd8
    exact tab_of (T := 165) (by kernel_rfl) Tryd.underlying165 Tryd.underlying3 (by kernel_rfl) (by kernel_rfl) hg8 ht8 hv8 hd8
  · rw [show Rows.laid_internal_strconv_uint64pow10 (H := Unit) = Lib.tabData .u64 Lib.pow10Tab by rfl] at hd2
    exact tab_of (T := 203) (by kernel_rfl) Tryd.underlying203 Tryd.underlying183 (by kernel_rfl) (by kernel_rfl) hg2 ht2 hv2 hd2
  · rw [show Rows.laid_strings_asciiSpace (H := Unit) = Lib.tabData .u8 Lib.asciiSpaceTab by rfl] at hd7
    exact tab_of (T := 171) (by kernel_rfl) Tryd.underlying171 Tryd.underlying5 (by kernel_rfl) (by kernel_rfl) hg7 ht7 hv7 hd7
  · exact err_of hv5 hd5
  · exact err_of hv4 hd4

/-- The laid heap meets the condition. -/
theorem door_met (os : Os) (args : Array Value) : laidMetH Tryd.prog (Rows.linesScriptRow.laid) ((World.laidAll Tryd.prog os Rows.linesScriptRow.laid).forCall (fun _ _ => 0) ⟨#[], args, []⟩).memory := by
  rw [MakeChecks.laidMetH_plain _ _ _ (by kernel_rfl)]; exact laidMet_laidAll _ (by kernel_rfl) (by kernel_rfl)

set_option linter.unusedVariables false
set_option maxRecDepth 100000 in
theorem lifted (os : Os) (started : os.Started) (H : Type) (enc : TypeId × Value → H) :
    ReturnsInHanded {} Tryd.checked os 12 .any (fun w args => (Rows.linesScriptSpec.pre enc Tryd.prog Tryd.f12 [] false w args ∧ laidMetH Tryd.prog Rows.linesScriptRow.laid w) ∧ sizedMet enc Tryd.prog Tryd.f12 (OpenSpec.ofChange Rows.linesScriptSpec) false w args)
      (Rows.linesScriptSpec.post enc Tryd.prog Tryd.f12 false true false false) := by
  refine wrap_shaped (C := Tryd.checked) (X := fun w _ => laidMetH Tryd.prog Rows.linesScriptRow.laid w) (fun _ _ _ hh h => h.of_heap hh) own started (by kernel_rfl) Tryd.func12
    (ChangeSpec.witness_shaped (enc := enc) (C := Tryd.checked) (os := os) (X := fun w _ => laidMetH Tryd.prog Rows.linesScriptRow.laid w) false (World.laidAll Tryd.prog os Rows.linesScriptRow.laid) #[.slice none 0 0] 8 (World.laidAll_os _ _ _) (World.shaped_of_ZipB (by kernel_rfl) (by kernel_rfl)) (by kernel_rfl) (by kernel_rfl) (by kernel_rfl) (door_met os _)) ?_
  intro W base args ds gs before hval0 hW hS1 hsz0 hL hsh hS3
  have hval : ∀ (j : Nat) t v, Tryd.f12.params[j]? = some t → args[j]? = some v → Value.okWide Tryd.prog W .any base t v := hval0
  have hsz : (DataW.weightsEach Tryd.prog (Tryd.f12.params.toList ++ Rows.linesScriptSpec.plain.varTypes Tryd.prog) (ds ++ gs)).all (· ≤ reachBytes) = true := hsz0
  have hW' := hW
  obtain ⟨p, q, hA0, hV, rfl, hfz, hnd⟩ := hW
  have hA : DataW.TrodAll enc Tryd.prog W 0 (fun _ => true) true Tryd.f12.params.toList args.toList ds p := hA0
  rw [Tryd.params12] at hA hval hsz
  obtain ⟨v0, vs0, d0, ds0, p0, q0, hargs, rfl, rfl, h0, r0⟩ := trodAll_cons hA
  obtain ⟨rfl, rfl, rfl⟩ := trodAll_nil r0
  obtain rfl : args = #[v0] := by cases args; simp_all
  obtain ⟨rfl, rfl⟩ := trodVars_none hV
  have k0 := h0
  have lt0 : ∀ x ∈ p0, x.block < W.heap.size := by obtain ⟨m, hm⟩ := k0; exact DataW.trod_lt m _ _ _ hm
  obtain ⟨A0, c0, l0, rfl, ha0⟩ := arg_strs (hval 0 66 v0 rfl rfl) h0
  clear hA0 hval0 hsz0
  refine (linesScript_any A0 c0 l0 W (door_of hsh hL) ha0).mono fun e W' ⟨he, bel⟩ => ?_
  subst he
  exact ⟨_, rfl, _, _, _, [], _, [], hW', trodAll_mk1 (shut_bool Tryd.underlying4 _), (trodAll_cons_mk (Below.trod laidOut (by kernel_rfl) (of_decide_eq_true (by kernel_rfl)) k0 bel lt0) trodAll_mk0), rfl, bel.frame _, fun h => by cases h⟩
theorem over : Rows.linesScriptRow.holds Tryd.pinned (OpenSpec.ofChange Rows.linesScriptSpec) :=
  OpenClaim.holds_of_wide 12 Tryd.f12 rfl rfl rfl rfl rfl rfl rfl ⟨rfl, rfl, rfl, rfl, rfl⟩ rfl rfl rfl rfl rfl (by kernel_rfl) Tryd.func12 (by kernel_rfl)
    (of_decide_eq_true (by kernel_rfl)) (by unfold Func.isWrapper; first | (rw [if_pos (by decide +kernel)]; kernel_rfl) | (rw [if_neg (by decide +kernel)]; exact ⟨rfl, rfl⟩))
    (fun os started H enc _ => lifted os started H enc)
end Go.Proofs.YtmeneoanmfpecaaDoor.linesScript
namespace Go.Proofs.YtmeneoanmfpecaaDoor
theorem linesScript_row_holds : Rows.LinesScriptSaid := linesScript.over
/-- The law LinesScript, its tied card. -/
theorem linesScript_holds : Rows.LinesScriptCardSaid :=
  Claim7.holds_tied_plain_at .later [] [.data, .data, .data, .data, .sentinel, .sentinel, .listed, .data, .data, .pinned] true (true, "eaf3681e6aad73b50de7aaf2c799dfc40c400763faaabbe2a71e594697351f26") true
    linesScript_row_holds (fun _ h => by cases h) (by kernel_rfl) (fun _ h => by cases h) linesScript_row_tie rfl ⟨rfl, rfl⟩ (by kernel_rfl) rfl
    (fun f fn hf hfn => by
      obtain rfl : f = 12 := Option.some.inj ((show Tryd.prog.funcNamed "hearsay/hearsaylaw37.LinesScript" = some 12 by kernel_rfl).symm.trans hf) |>.symm
      obtain rfl : fn = Tryd.f12 := (Option.some.inj (Tryd.func12.symm.trans hfn)).symm
      exact ⟨by kernel_rfl, fun j t ht => by
        rw [Tryd.params12] at ht
        have hm : t ∈ [66] := by simpa using Array.mem_of_getElem? ht
        have hall : ([66].all fun u => !Tryd.prog.wantsStandIn u) = true := by kernel_rfl
        exact (show Tryd.prog.wantsStandIn t = false by simpa using List.all_eq_true.1 hall t hm)⟩)
    (by kernel_rfl)
#print axioms linesScript_holds
end Go.Proofs.YtmeneoanmfpecaaDoor
