/- FormulaParts: for every input the law returns true; its arguments read as before. No condition beside the given statement's own. -/
import Derived.Test.YtfdopmapaaagoaaGreatDoorM5
import Derived.Test.YtfdopmapaaagoaaGreatDoorRows
import Derived.Test.YtfdopmapaaagoaaGreatDoorCards
import Derived.Test.YtfdopmapaaagoaaGreatDoorTie
import Derived.WalkKit
import Derived.ProofKit
import Derived.OpenShut
import Derived.ShutString
import Derived.ChangeOld
import Derived.Below
import Derived.SizedLaws
import Derived.LaidMore
import Derived.SevenTiedAt
import Derived.MakeChecks
import Derived.Stop.Joined
import Derived.LaidLaws
import Derived.Lay
namespace Go.Proofs.YtfdopmapaaagoaaGreatDoor.formulaParts
open Go.ChangeShapes Go.WideShapes Go.ChangeAt Go.RowKit Go.PV
open Go.ChangeMaps (open_string shut_string)
set_option linter.unusedVariables false
theorem own : ownKnob Tryz.prog.godebug = none := by kernel_rfl
theorem laidOut : laidOutB Tryz.prog = true := by kernel_rfl
set_option maxRecDepth 100000 in
theorem lifted (os : Os) (started : os.Started) (H : Type) (enc : TypeId × Value → H) :
    ReturnsInHanded {} Tryz.checked os 7 .any (fun w args => (Rows.formulaPartsSpec.pre enc Tryz.prog Tryz.f7 [] false w args ∧ laidMetH Tryz.prog Rows.formulaPartsRow.laid w) ∧ sizedMet enc Tryz.prog Tryz.f7 (OpenSpec.ofChange Rows.formulaPartsSpec) false w args) (Rows.formulaPartsSpec.post enc Tryz.prog Tryz.f7 false true false false) := by
  refine returnsInHanded_of_change_and (C := Tryz.checked) (X := fun w _ => laidMetH Tryz.prog Rows.formulaPartsRow.laid w) (fun _ _ _ hh h => h.of_heap hh) own started (by kernel_rfl) Tryz.func7
    (ChangeSpec.witness_shaped (enc := enc) (C := Tryz.checked) (os := os) (X := fun w _ => laidMetH Tryz.prog Rows.formulaPartsRow.laid w) false (World.laidAll Tryz.prog os Rows.formulaPartsRow.laid) #[.slice none 0 0, .int .i64 0, .int .i64 0] 8 (World.laidAll_os _ _ _) (World.shaped_of_ZipB (by kernel_rfl) (by kernel_rfl)) (by kernel_rfl) (by kernel_rfl) (by kernel_rfl)
      (by rw [MakeChecks.laidMetH_plain _ _ _ (by kernel_rfl)]; exact laidMet_laidAll _ (by kernel_rfl) (by kernel_rfl))) ?_
  intro W base args ds gs before hval0 hW hcnd hsz0 hL0 _
  have hval : ∀ (j : Nat) t v, Tryz.f7.params[j]? = some t → args[j]? = some v → Value.okWide Tryz.prog W .any base t v := hval0
  have hW' := hW
  obtain ⟨p, q, hA0, hV, rfl, hfz, hnd⟩ := hW
  have hA : DataW.TrodAll enc Tryz.prog W 0 (fun _ => true) true Tryz.f7.params.toList args.toList ds p := hA0
  rw [Tryz.params7] at hA hval
  obtain ⟨v0, vs0, d0, ds0, p0, q0, hargs, rfl, rfl, h0, r0⟩ := trodAll_cons hA
  obtain ⟨v1, vs1, d1, ds1, p1, q1, rfl, rfl, rfl, h1, r1⟩ := trodAll_cons r0
  obtain ⟨v2, vs2, d2, ds2, p2, q2, rfl, rfl, rfl, h2, r2⟩ := trodAll_cons r1
  obtain ⟨rfl, rfl, rfl⟩ := trodAll_nil r2
  obtain rfl : args = #[v0, v1, v2] := by cases args; simp_all
  obtain ⟨rfl, rfl⟩ := trodVars_none hV
  have k0 := h0
  have lt0 : ∀ x ∈ p0, x.block < W.heap.size := by obtain ⟨m, hm⟩ := k0; exact DataW.trod_lt m _ _ _ hm
  obtain ⟨l0, S0, hl0, ho0⟩ := OpensV.arg o50 (by decide) Tryz.underlying42 (hval 0 42 v0 rfl rfl) h0
  obtain ⟨a1, rfl, rfl, rfl, w1⟩ := open_int Tryz.underlying3 (hval 1 3 v1 rfl rfl) h1
  obtain ⟨a2, rfl, rfl, rfl, w2⟩ := open_int Tryz.underlying3 (hval 2 3 v2 rfl rfl) h2
  clear hA0 hval0 hsz0
  have hL1 : laidMet Tryz.prog Rows.formulaPartsRow.laid W := by rw [← MakeChecks.laidMetH_plain _ _ _ (by kernel_rfl)]; exact hL0
  have hZ : LaidZ W := ⟨laidT_of (hL1.tail.tail), globSyn_of (hL1.tail.tail.tail.tail.tail), globRan_of (hL1.tail.tail.tail.tail)⟩
  refine (law_calls (vs := [_, _, _]) (formulaParts_good l0 a1 a2 hl0 ho0 w1 w2) (.cons (ra0 S0) (.cons (ra0 (.int _ _)) (.cons (ra0 (.int _ _)) .nil))) (glob_size hZ) hZ).mono fun e W' ⟨he, bel⟩ => ?_
  subst he
  exact ⟨_, rfl, _, _, _, [], _, [], hW', trodAll_mk1 (shut_bool Tryz.underlying4 _), (trodAll_cons_mk (Below.trod laidOut (by kernel_rfl) (of_decide_eq_true (by kernel_rfl)) k0 bel lt0) (trodAll_cons_mk (shut_int Tryz.underlying3 w1) (trodAll_cons_mk (shut_int Tryz.underlying3 w2) trodAll_mk0))), rfl, bel.frame _, fun h => by cases h⟩
set_option maxRecDepth 100000 in
theorem j1 : Rows.formulaPartsRow.wf (OpenSpec.ofChange Rows.formulaPartsSpec) = true := by kernel_rfl
set_option maxRecDepth 100000 in
theorem j3 : mapsRowed Tryz.prog = true := by kernel_rfl
set_option maxRecDepth 100000 in
theorem j4 : namedTie Tryz.prog Rows.formulaPartsRow.named Rows.formulaPartsSpec.vars = true := by kernel_rfl
set_option maxRecDepth 100000 in
theorem j5 : (Tryz.prog.stops == []) = true := by kernel_rfl
set_option maxRecDepth 100000 in
theorem j6 : (Tryz.prog.stopKnobs == []) = true := by kernel_rfl
set_option maxRecDepth 100000 in
theorem j7 : (Rows.formulaPartsRow.inPlace == Tryz.prog.inPlace 7) = true := by kernel_rfl
set_option maxRecDepth 100000 in
theorem j8 : (Rows.formulaPartsRow.unfollowed == Tryz.prog.unfollowed 7) = true := by kernel_rfl
set_option maxRecDepth 100000 in
theorem j9 : (Rows.formulaPartsRow.recurses == Tryz.prog.recurses 7) = true := by kernel_rfl
set_option maxRecDepth 100000 in
theorem j10 : (Rows.formulaPartsRow.named == Tryz.prog.varsNamed 7) = true := by kernel_rfl
set_option maxRecDepth 100000 in
theorem j11 : (Rows.formulaPartsRow.plainKeys == Tryz.prog.plainKeys) = true := by kernel_rfl
set_option maxRecDepth 100000 in
theorem j12 : Tryz.prog.stopsHeard = true := by kernel_rfl
set_option maxRecDepth 100000 in
theorem j13 : Tryz.prog.mayEnter = true := by kernel_rfl
set_option maxRecDepth 100000 in
theorem j14 : (Rows.formulaPartsRow.lifted == Tryz.prog.liftsFinal) = true := by kernel_rfl
set_option maxRecDepth 100000 in
theorem j15 : (Tryz.prog.make == some Rows.formulaPartsRow.make) = true := by kernel_rfl
set_option maxRecDepth 100000 in
theorem j17 : Tryz.prog.funcNamed "constable/constablelaw12.FormulaParts" = some 7 := by kernel_rfl
set_option maxRecDepth 100000 in
theorem w1 : Rows.formulaPartsRow.wfByText (OpenSpec.ofChange Rows.formulaPartsSpec) = true := by kernel_rfl
set_option maxRecDepth 100000 in
theorem w2 : Tryz.prog.mainIs = some (true, "f8be040ae68293bc07507022844735a8ec62d05814589fc81fbd2576ea770058".toList) := by kernel_rfl
set_option maxRecDepth 100000 in
theorem w3 : true = Tryz.prog.looks [] := by kernel_rfl
set_option maxRecDepth 100000 in
theorem w4 : false = Rows.formulaPartsRow.goesBy Tryz.prog := by kernel_rfl
set_option maxRecDepth 100000 in
theorem w5 : ([42, 3, 3].all fun u => !Tryz.prog.wantsStandIn u) = true := by kernel_rfl
set_option maxRecDepth 100000 in
theorem closed : joinedFacts Tryz.prog 7 Tryz.f7 Rows.formulaPartsSpec Rows.formulaPartsRow = true := joined_of j1 laidOut j3 j4 j5 j6 j7 j8 j9 j10 j11 j12 j13 j14 j15 (by kernel_rfl)
theorem over : Rows.formulaPartsRow.holds Tryz.pinned (OpenSpec.ofChange Rows.formulaPartsSpec) :=
  OpenClaim.holds_of_wide 7 Tryz.f7 rfl rfl rfl rfl rfl rfl rfl ⟨rfl, rfl, rfl, rfl, rfl⟩ rfl rfl rfl rfl rfl j17 Tryz.func7 closed
    (of_decide_eq_true (by kernel_rfl)) (by unfold Func.isWrapper; first | (rw [if_pos (by decide +kernel)]; kernel_rfl) | (rw [if_neg (by decide +kernel)]; exact ⟨rfl, rfl⟩))
    (fun os started H enc _ => lifted os started H enc)
theorem proved : Rows.FormulaPartsCardSaid :=
  Claim7.holds_tied_plain_at .later [] [.data, .data, .data, .data, .sentinel, .sentinel, .pinned] true (true, "f8be040ae68293bc07507022844735a8ec62d05814589fc81fbd2576ea770058") true
    over (fun _ h => by cases h) w1 (fun _ h => by cases h) formulaParts_row_tie rfl ⟨rfl, rfl⟩ w2 rfl
    (fun f fn hf hfn => by
      obtain rfl : f = 7 := Option.some.inj (j17.symm.trans hf) |>.symm
      obtain rfl : fn = Tryz.f7 := (Option.some.inj (Tryz.func7.symm.trans hfn)).symm
      exact ⟨w3, fun j t ht => by
        rw [Tryz.params7] at ht
        have hm : t ∈ [42, 3, 3] := by simpa using Array.mem_of_getElem? ht
        exact (show Tryz.prog.wantsStandIn t = false by simpa using List.all_eq_true.1 w5 t hm)⟩)
    w4
#print axioms proved
end Go.Proofs.YtfdopmapaaagoaaGreatDoor.formulaParts
namespace Go.Proofs.YtfdopmapaaagoaaGreatDoor
/-- The statement, under a short name, for the claim. -/
theorem formulaParts_holds : Rows.FormulaPartsCardSaid := formulaParts.proved
end Go.Proofs.YtfdopmapaaagoaaGreatDoor
